/- PLAIN LEMMAS: rows of structs, as rows of cells; a slice literal of one struct. No program, no conditions. -/
import Derived.Test.YtmncihhofppkdaaDoorBase
import Derived.OwnWalk
import Derived.Great.BuildSlice
import Derived.Laws.AppendOwnNone
import Derived.Test.YtmncihhofppkdaaDoorLkBits
import Derived.Test.YtmncihhofppkdaaDoorLineD
namespace Go.Proofs.YtmncihhofppkdaaDoor
open Go.RowKit
set_option linter.unusedVariables false
set_option linter.unusedSimpArgs false

/-- cells that are read -/
abbrev RdV (w : World) (B : Nat) (A : Option Addr) (us : List Value) : Prop := Rd (fun v : Value => v) w B A us
theorem rflat_len {α β : Type} {f : α → List β} {K : Nat} : ∀ {xs : List α}, (∀ x ∈ xs, (f x).length = K) → (xs.flatMap f).length = xs.length * K
  | [], _ => by simp
  | x :: xs, h => by
    rw [List.flatMap_cons, List.length_append, h x (by simp), rflat_len (xs := xs) (fun y hy => h y (by simp [hy])), List.length_cons, Nat.add_mul]; omega
theorem rflat_at {α β : Type} {f : α → List β} {K : Nat} : ∀ {xs : List α} {k : Nat} {x : α}, (∀ x ∈ xs, (f x).length = K) → xs[k]? = some x → ∀ j u, (f x)[j]? = some u → (xs.flatMap f)[K * k + j]? = some u
  | [], k, x, _, hk => by simp at hk
  | y :: xs, 0, x, h, hk => fun j u hj => by
    simp at hk; subst hk
    rw [List.flatMap_cons, List.getElem?_append_left (by have := (List.getElem?_eq_some_iff.1 hj).1; omega)]
    simpa using hj
  | y :: xs, k + 1, x, h, hk => fun j u hj => by
    rw [List.flatMap_cons, List.getElem?_append_right (by rw [h y (by simp), Nat.mul_add]; omega), h y (by simp), show K * (k + 1) + j - K = K * k + j by rw [Nat.mul_add]; omega]
    exact rflat_at (xs := xs) (fun z hz => h z (by simp [hz])) (by simpa using hk) j u hj
/-- an element of a row of structs -/
theorem RdV.elem {α : Type} {f : α → List Value} {K : Nat} {w : World} {B : Nat} {A : Option Addr} {xs : List α} (h : RdV w B A (xs.flatMap f)) (hK : ∀ x ∈ xs, (f x).length = K) (hK0 : 0 < K) {k : Nat} {x : α} (hk : xs[k]? = some x) :
    ∃ b off, A = some ⟨b, off, none⟩ ∧ b < B ∧ w.rangeAt b (off + K * k) (f x) := by
  have hlt := (List.getElem?_eq_some_iff.1 hk).1
  obtain ⟨b, off, e, hb, hc⟩ := h (by rw [rflat_len hK]; exact Nat.mul_pos (by omega) hK0)
  refine ⟨b, off, e, hb, fun j u hj => ?_⟩
  rw [Nat.add_assoc]
  exact hc _ _ (rflat_at hK hk j u hj)

section
variable {P : Program} {w : World}
/-- append of structs that are read onto a row that the call owns -/
theorem run_append_row (K : Nat) (hK : 0 < K) (base : Nat) (t ty e : TypeId) (i : TypeInfo) (z : Value) (bytes : Nat) (ht : P.underlying t = some (.slice e)) (hi : P.info? e = some i) (hz : i.zero = some z)
    (hsize : i.size = K) (hby : i.bytes = bytes) (hzs : z.cells.size = K)
    (v : Value) (n : Nat) (us : List Value) (hown : w.ownsRow base e K v n us)
    (B : Nat) (A : Option Addr) (m c : Nat) (news : List Value) (hl : news.length = m * K) (hm : 0 < m) (hr : RdV w B A news) (h1 : ∀ u ∈ news, u.oneCell' = true)
    (h63 : n + m ≤ maxLen) (hbytes : (n + m) * bytes ≤ 140737488355328) (hbase : base ≤ w.heap.size) :
    ∃ v' w', (Builtin.append_ #[t, t] ty #[v, .slice A m c]).run P w = .ok v' w' ∧ w'.ownsRow base e K v' (n + m) (us ++ news) ∧ Grew w w' v v' := by
  obtain ⟨b0, off0, rfl, hb0, hc0⟩ := hr (by rw [hl]; exact Nat.mul_pos hm hK)
  have hcells : ∀ j u, news[j]? = some u → w.cell? ((⟨b0, off0, none⟩ : Addr).add j) = some u := fun j u hu => by
    have := hc0 j u hu
    rw [Addr.add_lit]; exact this
  have hsmall : n + m ≤ 9223372036854775807 := by simp only [maxLen] at h63; omega
  have hul := hown.1
  have grown : ∀ (old : Nat), old < n + m →
      (w.drew.alloc (.cells (us.toArray ++ news.toArray ++ Builtin.zeroCells z.cells (grownCap w (n + m) old e - (n + m))) e)).ownsRow base e K
        (.slice (some ⟨w.heap.size, 0, none⟩) (n + m) (grownCap w (n + m) old e)) (n + m) (us ++ news) ∧
      w.grownBy (w.drew.alloc (.cells (us.toArray ++ news.toArray ++ Builtin.zeroCells z.cells (grownCap w (n + m) old e - (n + m))) e)) none := by
    intro old ho
    have hge := grownCap_ge w (n + m) old e
    have hcm := grownCap_le_maxLen w (n + m) old e h63
    refine ⟨⟨by rw [List.length_append, hul, hl, Nat.add_mul], .inr ⟨w.heap.size, _, _, rfl, hbase, heap_alloc_new w.drew _, hge, hcm, ?_, ?_⟩⟩, ⟨rfl, rfl, rfl, by simp, fun k hk _ => heap_alloc_old w.drew _ hk⟩⟩
    · simp only [Array.size_append, List.size_toArray, size_zeroCells, hzs, hul, hl]
      rw [← Nat.add_mul, ← Nat.add_mul]
      congr 1
      omega
    · simp only [Array.toList_append]
      rw [List.take_append_of_le_length (by simp [hul, hl, Nat.add_mul])]
      exact List.take_of_length_le (by simp [hul, hl, Nat.add_mul])
  rcases hown.2 with ⟨rfl, h0⟩ | ⟨g, cap, cur, rfl, hbg, hg, hnc, hcm, hcs, htake⟩
  · subst h0
    have hx : us = [] := List.eq_nil_of_length_eq_zero (by rw [hul]; simp)
    subst hx
    have hr := run_append_nil (P := P) w t ty e i z ht hi hz ⟨b0, off0, none⟩ m c news (by rw [hl, hsize]) hcells hm (by simp at hsmall; omega) (by rw [hby]; have hb := hbytes; simp only [Nat.zero_add] at hb; omega)
    have hgr := grown 0 (by simpa using hm)
    simp only [Nat.zero_add, List.nil_append, Array.empty_append] at hgr ⊢
    exact ⟨_, _, hr, hgr.1, .inr (.inr ⟨rfl, hgr.2⟩)⟩
  · by_cases hroom : n + m ≤ cap
    · obtain ⟨w', hr, ho, hgr⟩ := run_append_fits (P := P) w base t ty e i K ht hi hsize g n cap us hown ⟨b0, off0, none⟩ m c news hl hcells h1 hroom
      exact ⟨_, w', hr, ho, .inr (.inl ⟨g, _, _, cap, rfl, rfl, hgr⟩)⟩
    · have holds : ∀ j u, us[j]? = some u → w.cell? ((⟨g, 0, none⟩ : Addr).add j) = some u := World.ownsRow.cells (g := g) hown rfl
      have hr := run_append_grow (P := P) w t ty e i z ht hi hz ⟨g, 0, none⟩ n cap us (by rw [hul, hsize]) holds ⟨b0, off0, none⟩ m c news (by rw [hl, hsize]) hcells (by omega) (by omega) (by rw [hby]; exact growslice_fits (by omega) hbytes)
      have hgr := grown cap (by omega)
      exact ⟨_, _, hr, hgr.1, .inr (.inr ⟨rfl, hgr.2⟩)⟩
theorem rowS_bel {w w' : World} {v v' : Value} {base E K n : Nat} {us : List Value} (h : Grew w w' v v') (hown : w.ownsRow base E K v n us) (hbase : base ≤ w.heap.size) {C : Nat} {w0 : World} (hC : C ≤ base) (hb : Below C w0 w) : Below C w0 w' :=
  hb.grown h.by_ (by omega) (fun k hk => by have := (World.ownsRow.lt hown k hk).1; omega)
theorem wpList_append_row {ops : Array Oper} {rest : List Oper} {o : Oper} {a : Act} {Q : Exit → Act → World → Prop} (hgd : o.guard = none) (s x : Operand) (t : TypeId)
    (ho : o.op = .call { callee := .builtin .append, args := #[s, x], argTypes := #[t, t] })
    (K : Nat) (hK : 0 < K) (base : Nat) (e : TypeId) (i : TypeInfo) (z : Value) (bytes : Nat) (ht : P.underlying t = some (.slice e)) (hi : P.info? e = some i) (hz : i.zero = some z)
    (hsize : i.size = K) (hby : i.bytes = bytes) (hzs : z.cells.size = K)
    (v : Value) (n : Nat) (us : List Value) (hs : a.eval s = v) (hown : w.ownsRow base e K v n us)
    (B : Nat) (A : Option Addr) (m c : Nat) (news : List Value) (hx : a.eval x = .slice A m c) (hl : news.length = m * K) (hm : 0 < m) (hr : RdV w B A news) (h1 : ∀ u ∈ news, u.oneCell' = true)
    (h63 : n + m ≤ maxLen) (hbytes : (n + m) * bytes ≤ 140737488355328) (hbase : base ≤ w.heap.size)
    (h : ∀ v' w', w'.ownsRow base e K v' (n + m) (us ++ news) → Grew w w' v v' → (∀ C w0, C ≤ base → Below C w0 w → Below C w0 w') → wpList P ops Q rest (a.put o.dst v') w') : wpList P ops Q (o :: rest) a w := by
  refine wpList_plain hgd fun K' hK' => ?_
  obtain ⟨v', w', hrun, h2, h3⟩ := run_append_row (P := P) K hK base t o.type e i z bytes ht hi hz hsize hby hzs v n us hown B A m c news hl hm hr h1 h63 hbytes hbase
  unfold Oper.wp execOp
  simp only [ho, resolve, invoke, builtin, Sem.run_bind, Sem.run_pure, Result.andThen_ok, List.map_toArray, List.map_cons, List.map_nil, hs, hx, hrun]
  exact hK' _ _ (h v' w' h2 h3 (fun C w0 hC hb => rowS_bel h3 hown hbase hC hb))
end
section
variable {w w' : World} {B E K n : Nat} {v : Value} {us : List Value}
theorem rowS_shape (h : w.ownsRow B E K v n us) : ∃ A c, v = .slice A n c ∧ RdV w w.heap.size A us ∧ (A = none → c = 0) ∧ n ≤ c ∧ c ≤ maxLen := by
  rcases h.2 with ⟨rfl, h0⟩ | ⟨g, cap, cur, rfl, hb, hg, hnc, hcm, hcs, htake⟩
  · subst h0
    have hx : us = [] := List.eq_nil_of_length_eq_zero (by rw [h.1]; simp)
    subst hx
    exact ⟨none, 0, rfl, Rd.nil_ _ _ _ _, fun _ => rfl, Nat.le_refl _, by simp [maxLen]⟩
  · refine ⟨some ⟨g, 0, none⟩, cap, rfl, fun _ => ⟨g, 0, rfl, ?_, fun j u hu => ?_⟩, (fun h => by cases h), hnc, hcm⟩
    · exact ((World.ownsRow.lt h g rfl)).2
    · have := World.ownsRow.cells h (g := g) rfl j u hu
      rw [Addr.add_lit] at this
      exact this
theorem rowS_below {C : Nat} (h : w.ownsRow B E K v n us) (hb : Below C w w') (hC : w.heap.size ≤ C) : w'.ownsRow B E K v n us := by
  refine ⟨h.1, ?_⟩
  rcases h.2 with h0 | ⟨g, cap, cur, hv, hbg, hg, rest⟩
  · exact .inl h0
  · have hlt : g < w.heap.size := by have := World.ownsRow.lt h g (by rw [hv]; rfl); exact this.2
    exact .inr ⟨g, cap, cur, hv, hbg, (hb.block g (by omega)).trans hg, rest⟩
theorem rowS_less {B' : Nat} (h : w.ownsRow B E K v n us) (hB : B' ≤ B) : w.ownsRow B' E K v n us := by
  refine ⟨h.1, ?_⟩
  rcases h.2 with h0 | ⟨g, cap, cur, hv, hbg, rest⟩
  · exact .inl h0
  · exact .inr ⟨g, cap, cur, hv, by omega, rest⟩
/-- rows of other types lie elsewhere -/
theorem rowS_unlike {B' E' K' n' : Nat} {v' : Value} {us' : List Value} (h : w.ownsRow B E K v n us) (h' : w.ownsRow B' E' K' v' n' us') (hE : E ≠ E') (b : Nat) (hb : v.ownBlock = some b) : v'.ownBlock ≠ some b := by
  intro hb'
  rcases h.2 with ⟨rfl, _⟩ | ⟨g, cap, cur, rfl, _, hg, _⟩
  · cases hb
  · rcases h'.2 with ⟨rfl, _⟩ | ⟨g', cap', cur', rfl, _, hg', _⟩
    · cases hb'
    · simp only [Value.ownBlock, Option.some.injEq] at hb hb'
      subst hb; subst hb'
      rw [hg] at hg'
      injection hg' with e
      injection e with _ e2
      exact hE e2
theorem rowS_kept' (h : w.ownsRow B E K v n us) {row : Option Nat} (hg : w.grownBy w' row) (hne : ∀ g, row = some g → v.ownBlock ≠ some g) : w'.ownsRow B E K v n us := by
  cases row with
  | none => exact World.ownsRow.kept h hg (by cases hv : v.ownBlock <;> simp)
  | some g => exact World.ownsRow.kept h hg (.inr (hne g rfl))
/-- a struct that was just boxed as a row of one -/
theorem rdV_new (w : World) (E : TypeId) (us : List Value) : RdV (w.alloc (.cells us.toArray E)) (w.heap.size + 1) (some ⟨w.heap.size, 0, none⟩) us := by
  have := Rd.new (fun v : Value => v) w E us
  rwa [List.map_id'] at this
end
theorem fill_one {s : Nat} (hs : 0 < s) (v : Value) (hv : v.cells.size = s) (cells : Array Value) (hc : cells.size = s) : Instr.fill (fun i => some (i * s, s)) cells [(0, v)] = some v.cells := by
  obtain ⟨r, hr, hsz, hk⟩ := Great.fill_dense hs [v] 0 cells (fun u hu => by simp at hu; subst hu; exact hv) (by simp [hc])
  have e : r = v.cells := by
    apply Array.ext_getElem?
    intro k
    rw [hk k]
    simp only [Nat.zero_mul, List.length_cons, List.length_nil, Nat.zero_add, Nat.one_mul, Nat.zero_le, true_and, Nat.sub_zero]
    by_cases h : k < s
    · rw [if_pos h, Nat.div_eq_of_lt h, Nat.mod_eq_of_lt h]; rfl
    · rw [if_neg h, Array.getElem?_eq_none (by omega), Array.getElem?_eq_none (by omega)]
  rw [← e, ← hr]; rfl
/-- a slice literal of one struct -/
theorem wpList_box_slice {P : Program} {ops : Array Oper} {rest : List Oper} {o : Oper} {a : Act} {w : World} {Q : Exit → Act → World → Prop} (hg : o.guard = none) (t e : TypeId) (x : Operand) (ho : o.op = .buildSlice t 1 #[(0, x)])
    (ie : TypeInfo) (z : Value) (K : Nat) (cells : Array Value) (hx : a.eval x = .agg cells) (hK : cells.size = K) (hK0 : 0 < K) (hKs : K ≤ 1000)
    (hu : P.underlying t = some (.slice e)) (hie : P.info? e = some ie) (hz : ie.zero = some z) (hsz : ie.size = K) (hzs : z.cells.size = K)
    (h : wpList P ops Q rest (a.put o.dst (.slice (some ⟨w.heap.size, 0, none⟩) 1 1)) (w.alloc (.cells cells e))) : wpList P ops Q (o :: rest) a w := by
  refine wpList_buildSlice hg t e 1 #[(0, x)] ho cells ie z hu hie hz (by rw [hsz]; omega) (by rw [hsz]; omega) ?_ h
  rw [hsz]
  rw [show (#[(0, x)].map fun (i, x) => (i, a.eval x)).toList = [(0, .agg cells)] by simp [hx]]
  exact fill_one hK0 (.agg cells) hK _ (by simp)
/-- append of structs that are read, of none too -/
theorem wpList_append_rowD {P : Program} {w : World} {ops : Array Oper} {rest : List Oper} {o : Oper} {a : Act} {Q : Exit → Act → World → Prop} (hgd : o.guard = none) (s x : Operand) (t : TypeId)
    (ho : o.op = .call { callee := .builtin .append, args := #[s, x], argTypes := #[t, t] })
    (K : Nat) (hK : 0 < K) (base : Nat) (e : TypeId) (i : TypeInfo) (z : Value) (bytes : Nat) (ht : P.underlying t = some (.slice e)) (hi : P.info? e = some i) (hz : i.zero = some z)
    (hsize : i.size = K) (hby : i.bytes = bytes) (hzs : z.cells.size = K)
    (v : Value) (n : Nat) (us : List Value) (hs : a.eval s = v) (hown : w.ownsRow base e K v n us)
    (B : Nat) (A : Option Addr) (m c : Nat) (news : List Value) (hx : a.eval x = .slice A m c) (hl : news.length = m * K) (hm : m = 0 → A = none ∧ c = 0) (hr : RdV w B A news) (h1 : ∀ u ∈ news, u.oneCell' = true)
    (h63 : n + m ≤ maxLen) (hbytes : (n + m) * bytes ≤ 140737488355328) (hbase : base ≤ w.heap.size)
    (h : ∀ v' w', w'.ownsRow base e K v' (n + m) (us ++ news) → Grew w w' v v' → (∀ C w0, C ≤ base → Below C w0 w → Below C w0 w') → wpList P ops Q rest (a.put o.dst v') w') : wpList P ops Q (o :: rest) a w := by
  rcases Nat.eq_zero_or_pos m with h0 | h0
  · subst h0
    obtain ⟨rfl, rfl⟩ := hm rfl
    have hn : news = [] := List.eq_nil_of_length_eq_zero (by rw [hl]; simp)
    subst hn
    exact wpList_append_own_none hgd s x t ho base e i K ht hi v n us hs hown hx (h v w (by rw [List.append_nil]; exact hown) (.inl ⟨rfl, rfl⟩) (fun C w0 _ hb => hb))
  · exact wpList_append_row hgd s x t ho K hK base e i z bytes ht hi hz hsize hby hzs v n us hs hown B A m c news hx hl h0 hr h1 h63 hbytes hbase h
end Go.Proofs.YtmncihhofppkdaaDoor

/- The reference's chain in memory: what it holds, what was asked for; plain laws. -/
namespace Go.Proofs.YtmncihhofppkdaaDoor
open Go.RowKit
set_option linter.unusedVariables false
set_option linter.unusedSimpArgs false
def i64c (x : Int) : Value := .int .i64 x
theorem i64c_one (x : Int) : (i64c x).oneCell' = true := rfl
/-- the cells of the reference's chain -/
def lineR (link : List (BitVec 8)) (place : Int) (hv av : Value) (low : Int) : List Value := link.map b8 ++ [.int .i64 place, hv, av, .int .i64 low]
section
variable {link : List (BitVec 8)} {place low : Int} {hv av : Value} (hl : link.length = 32)
include hl
theorem lineR_len : (lineR link place hv av low).length = 36 := by simp [lineR, hl]
theorem lineR_32 : (lineR link place hv av low)[32]? = some (.int .i64 place) := by
  unfold lineR; rw [List.getElem?_append_right (by simp [hl])]; simp [hl]
theorem lineR_33 : (lineR link place hv av low)[33]? = some hv := by
  unfold lineR; rw [List.getElem?_append_right (by simp [hl])]; simp [hl]
theorem lineR_34 : (lineR link place hv av low)[34]? = some av := by
  unfold lineR; rw [List.getElem?_append_right (by simp [hl])]; simp [hl]
theorem lineR_35 : (lineR link place hv av low)[35]? = some (.int .i64 low) := by
  unfold lineR; rw [List.getElem?_append_right (by simp [hl])]; simp [hl]
theorem lineR_set32 (p : Int) : (lineR link place hv av low).set 32 (.int .i64 p) = lineR link p hv av low := by
  unfold lineR; simp [List.set_append, hl]
theorem lineR_set33 (v : Value) : (lineR link place hv av low).set 33 v = lineR link place v av low := by
  unfold lineR; simp [List.set_append, hl]
theorem lineR_set34 (v : Value) : (lineR link place hv av low).set 34 v = lineR link place hv v low := by
  unfold lineR; simp [List.set_append, hl]
theorem lineR_set35 (p : Int) : (lineR link place hv av low).set 35 (.int .i64 p) = lineR link place hv av p := by
  unfold lineR; simp [List.set_append, hl]
end
theorem lineR_eq (link : List (BitVec 8)) (place low : Int) (hv av : Value) : lineR link place hv av low = [] ++ (link.map b8 ++ [.int .i64 place, hv, av, .int .i64 low]) := rfl
theorem lineR_one {link : List (BitVec 8)} {place low : Int} {hv av : Value} (h1 : hv.oneCell' = true) (h2 : av.oneCell' = true) : ∀ u ∈ lineR link place hv av low, u.oneCell' = true := by
  intro u hu
  unfold lineR at hu
  simp only [List.mem_append, List.mem_cons, List.not_mem_nil, or_false] at hu
  rcases hu with hu | rfl | rfl | rfl | rfl
  · obtain ⟨x, -, rfl⟩ := List.mem_map.1 hu; exact b8_one x
  · rfl
  · exact h1
  · exact h2
  · rfl
theorem lineR_link (w : World) (g : Nat) (T : TypeId) {link : List (BitVec 8)} {place low : Int} {hv av : Value} (hl : link.length = 32) (b : Blk w g T (lineR link place hv av low)) : w.rangeAt g 0 (link.map b8) := by
  have h := b.range 0 32
  rwa [List.drop_zero, show (lineR link place hv av low).take 32 = link.map b8 by unfold lineR; rw [List.take_left' (by rw [List.length_map, hl])]] at h
/-- a number, its key, and where its nonce lies -/
structure RO where
  o : OnceM
  r : Nat
  off : Nat
  c : Nat
def RO.cells (x : RO) : List Value := onceC x.o.no x.o.key (.slice (some ⟨x.r, x.off, none⟩) 12 x.c)
structure RO.At (w : World) (x : RO) : Prop where
  key : x.o.key.length = 32
  nn : x.o.nonce.length = 12
  ty : ∃ cs, w.heap[x.r]? = some (.cells cs 5 (0, 0))
  rd : w.rangeAt x.r x.off (x.o.nonce.map b8)
theorem RO.At.lt {w : World} {x : RO} (h : x.At w) : x.r < w.heap.size := by
  obtain ⟨cs, hc⟩ := h.ty
  rcases Nat.lt_or_ge x.r w.heap.size with h1 | h1
  · exact h1
  · rw [Array.getElem?_eq_none h1] at hc; cases hc
theorem RO.At.of {w w' : World} {x : RO} (h : x.At w) (hs : w.heap.size ≤ w'.heap.size) (hb : w'.heap[x.r]? = w.heap[x.r]?) : x.At w' :=
  ⟨h.key, h.nn, by rw [hb]; exact h.ty, fun j u hu => by rw [← h.rd j u hu]; exact World.cell?_of_block hb⟩
theorem RO.At.below {w w' : World} {x : RO} {B : Nat} (h : x.At w) (hb : Below B w w') (hB : w.heap.size ≤ B) : x.At w' := h.of hb.size (hb.block _ (by have := h.lt; omega))
theorem RO.At.grown {w w' : World} {x : RO} {g : Nat} (h : x.At w) (hg : w.grownBy w' (some g)) (hne : x.r ≠ g) : x.At w' := h.of hg.size (hg.block _ h.lt (fun e => by injection e with e; exact hne e))
/-- a block of another type has turned -/
theorem RO.At.other {w w' : World} {x : RO} {g : Nat} {T : TypeId} {cs : Array Value} (h : x.At w) (hg : w.grownBy w' (some g)) (hb : w.heap[g]? = some (.cells cs T (0, 0))) (hT : T ≠ 5) : x.At w' := h.grown hg (fun e => by
  obtain ⟨c2, h2⟩ := h.ty
  rw [e, hb] at h2
  injection h2 with h2
  injection h2 with _ h3
  exact hT h3)
theorem RO.At.alloc {w : World} {x : RO} (h : x.At w) (o : Obj) : x.At (w.alloc o) := h.below ((Below.refl _ w).alloc (Nat.le_refl _) o) (Nat.le_refl _)
/-- rows of another type have grown -/
theorem RO.At.grew {w w' : World} {x : RO} {v v' : Value} {B E K n : Nat} {us : List Value} (h : x.At w) (hg : Grew w w' v v') (ho : w.ownsRow B E K v n us) (hE : E ≠ 5) : x.At w' := by
  rcases hg with ⟨rfl, rfl⟩ | ⟨g, m, m', c, rfl, rfl, hg⟩ | ⟨-, hg⟩
  · exact h
  · rcases ho.2 with ⟨e, -⟩ | ⟨g', cap, cur, e, -, hg', -⟩
    · cases e
    · injection e with e1 e2 e3
      injection e1 with e1
      injection e1 with e1
      subst e1
      exact h.other hg hg' hE
  · exact h.of hg.size (hg.block _ h.lt (by simp))
theorem RO.At.read {w : World} {x : RO} (h : x.At w) : Rd b8 w (x.r + 1) (some ⟨x.r, x.off, none⟩) x.o.nonce := fun _ => ⟨x.r, x.off, rfl, by omega, fun j u hu => by
  have := h.rd j (b8 u) (by rw [List.getElem?_map, hu]; rfl)
  exact this⟩
theorem RO.len {w : World} {x : RO} (h : x.At w) : x.cells.length = 34 := onceC_len _ _ _ h.key
theorem RO.one (x : RO) : ∀ u ∈ x.cells, u.oneCell' = true := onceC_one _ _ _ _ _
theorem RO.flat_len {w : World} {rs : List RO} (h : ∀ x ∈ rs, x.At w) : (rs.flatMap RO.cells).length = rs.length * 34 := rflat_len (fun x hx => RO.len (h x hx))
theorem RO.flat_one (rs : List RO) : ∀ u ∈ rs.flatMap RO.cells, u.oneCell' = true := fun u hu => by
  obtain ⟨x, -, hx⟩ := List.mem_flatMap.1 hu
  exact x.one u hx
theorem rd_range {w : World} {B g off : Nat} {xs : List (BitVec 8)} (h : Rd b8 w B (some ⟨g, off, none⟩) xs) : w.rangeAt g off (xs.map b8) := fun j u hu => by
  rw [List.getElem?_map] at hu
  obtain ⟨y, hy, rfl⟩ := Option.map_eq_some_iff.1 hu
  have hj := (List.getElem?_eq_some_iff.1 hy).1
  obtain ⟨b, o, e, -, hc⟩ := h (by omega)
  injection e with e
  injection e with e1 e2
  subst e1; subst e2
  exact hc j y hy
/-- the reference's chain: its model, and what lies where -/
structure RL where
  l : LineM
  rs : List RO
  hA : Option Addr
  hc : Nat
  aA : Option Addr
  ac : Nat
def RL.cells (x : RL) : List Value := lineR x.l.link x.l.place (.slice x.hA x.rs.length x.hc) (.slice x.aA x.l.asked.length x.ac) x.l.low
theorem rd_wider {α : Type} {f : α → Value} {w : World} {B B' : Nat} {A : Option Addr} {xs : List α} (h : Rd f w B A xs) (hB : B ≤ B') : Rd f w B' A xs := fun hn => by
  obtain ⟨b, off, e, hb, hc⟩ := h hn
  exact ⟨b, off, e, by omega, hc⟩
structure RL.At (w : World) (x : RL) : Prop where
  ok : LOK x.l
  fst : x.rs.map RO.o = x.l.held
  rows : RdV w w.heap.size x.hA (x.rs.flatMap RO.cells)
  none_ : x.rs.length = 0 → x.hA = none ∧ x.hc = 0
  each : ∀ o ∈ x.rs, o.At w
  asked : Rd i64c w w.heap.size x.aA x.l.asked
theorem RL.At.below {w w' : World} {x : RL} {B : Nat} (h : x.At w) (hb : Below B w w') (hB : w.heap.size ≤ B) : x.At w' :=
  ⟨h.ok, h.fst, rd_wider (Rd.below h.rows (hb.mono hB)) hb.size, h.none_, fun o ho => (h.each o ho).below hb hB, rd_wider (Rd.below h.asked (hb.mono hB)) hb.size⟩
theorem infoROnce : (Tryd.prog.info? 38).map (fun i => (i.zero, i.size, i.bytes)) = some (some (.agg zeroOnce.toArray), 34, 64) := by kernel_rfl
theorem infoRLine : (Tryd.prog.info? 56).map (fun i => (i.zero, i.size, i.bytes)) = some (some (.agg (lineR (List.replicate 32 0#8) 0 (.slice none 0 0) (.slice none 0 0) 0).toArray), 36, 96) := by kernel_rfl
theorem sizeRLine : (Tryd.prog.info? 56).map (·.size) = some 36 := by kernel_rfl
def lenV : Value → Nat
  | .slice _ n _ => n
  | _ => 0
theorem infoIntR : (Tryd.prog.info? 3).map (fun i => (i.zero, i.size, i.bytes)) = some (some (.int .i64 0), 1, 8) := by kernel_rfl
/-- what is held is no more than 64 numbers -/
theorem riseO_len : ∀ (l : List OnceM) (a : Int) (n : Nat), RiseO l → (∀ o ∈ l, a ≤ o.no ∧ o.no < a + (n : Int)) → l.length ≤ n
  | [], _, _, _, _ => Nat.zero_le _
  | o :: r, a, n, hr, hb => by
    obtain ⟨h1, h2⟩ := List.pairwise_cons.1 hr
    have ho := hb o (by simp)
    cases n with
    | zero => exfalso; have := ho.1; have := ho.2; simp at this; omega
    | succ n =>
      rw [List.length_cons]
      have := riseO_len r (a + 1) n h2 (fun x hx => by
        have := h1 x hx
        have h3 := (hb x (by simp [hx])).2
        refine ⟨by omega, ?_⟩
        have e : ((n + 1 : Nat) : Int) = (n : Int) + 1 := by omega
        omega)
      omega
theorem foldl_hi : ∀ (l : List Int) (z : Int), l.foldl (fun m x => if m < x then x else m) z = z ∨ l.foldl (fun m x => if m < x then x else m) z ∈ l
  | [], z => .inl rfl
  | a :: r, z => by
    rw [List.foldl_cons]
    rcases foldl_hi r (if z < a then a else z) with h | h
    · by_cases hz : z < a
      · rw [if_pos hz] at h; right; rw [if_pos hz, h]; simp
      · rw [if_neg hz] at h; left; rw [if_neg hz, h]
    · right; exact List.mem_cons_of_mem _ h
theorem LOK.held_len {l : LineM} (k : LOK l) : l.held.length ≤ 64 := by
  refine riseO_len l.held (l.place - 65) 64 k.rise (fun o ho => ?_)
  obtain ⟨h1, h2, h3, h4, -⟩ := k.held o ho
  have hh := k.hi
  have hne : o.no ≠ l.place - 1 := by
    intro e
    unfold hiM hiA at hh
    rcases foldl_hi l.asked (l.low - 1) with h | h
    · rw [h] at hh; omega
    · rw [hh] at h; rw [← e] at h; exact h3 h
  refine ⟨h4, ?_⟩
  show o.no < l.place - 65 + ((64 : Nat) : Int)
  omega
end Go.Proofs.YtmncihhofppkdaaDoor

/- CONTRACT: burrowref19.highest. -/
namespace Go.Proofs.YtmncihhofppkdaaDoor
open Go.RowKit
set_option linter.unusedVariables false
set_option linter.unusedSimpArgs false
theorem hiA_take (L : List Int) (low : Int) (k : Nat) (h : k < L.length) : hiA (L.take (k + 1)) low = if hiA (L.take k) low < L[k] then L[k] else hiA (L.take k) low := by
  rw [List.take_succ_eq_append_getElem h, hiA_snoc]
set_option maxRecDepth 100000 in
set_option maxHeartbeats 1000000 in
theorem refHi_any (w : World) (link : List (BitVec 8)) (hl : link.length = 32) (place low : Int) (hv : Value) (B : Nat) (A : Option Addr) (n c : Nat) (L : List Int) (hr : Rd i64c w B A L) (hB : B ≤ w.heap.size) (hn : L.length = n) (hm : n ≤ 1000000)
    (low0 : 0 ≤ low) (low1 : low ≤ 4294967295) :
    Calls Tryd.prog 38 #[.agg (lineR link place hv (.slice A n c) low).toArray] w fun e w' => e = .returned (.int .i64 (hiA L low)) ∧ Below w.heap.size w w' := by
  obtain ⟨C, hC⟩ : ∃ C, C = lineR link place hv (.slice A n c) low := ⟨_, rfl⟩
  obtain ⟨w1, hw1⟩ : ∃ w1, w1 = w.alloc (.cells C.toArray 56) := ⟨_, rfl⟩
  have HX := Lib.hid (show Blk w1 w.heap.size 56 C by rw [hw1]; exact Blk.new _ _ _)
  have HB1 := Lib.hid (show Below w.heap.size w w1 by rw [hw1]; exact (Below.refl _ w).alloc (Nat.le_refl _) _)
  have hr1 := hr.below (HB1.out.mono hB)
  have c34 := HX.out.cell 34 (u := .slice A n c) (by rw [hC]; exact lineR_34 hl)
  have c35 := HX.out.cell 35 (u := .int .i64 low) (by rw [hC]; exact lineR_35 hl)
  have HW1 := Lib.hid hw1
  have Hh := Lib.hid hr1
  have Hn := Lib.hid hn
  rw [← hC]
  clear hC hw1 hr hr1 hn hl
  go_enter Tryd.func38, Tryd.ntmps38
  go_upto_region 1 with fail
  rw [← HW1.out]
  go_wp2_with fail
  go_loop [3, 4] (fun m i => ∃ k : Nat, k ≤ n ∧ i = .int .i64 k ∧ m = .int .i64 (hiA (L.take k) low)) (fun _ i => n - (intOf i).toNat)
  case atStart => exact ⟨0, by omega, rfl, rfl⟩
  case round =>
    obtain ⟨k, hk, rfl, rfl⟩ := hrel
    by_cases hlt : k < n
    · have hkl : k < L.length := by rw [Hn.out]; exact hlt
      obtain ⟨b, off, rfl, hB, hc⟩ := Hh.out.at_ hkl
      have ht := hiA_take L low k hkl
      generalize L[k] = x at hc ht
      generalize hiA (L.take k) low = m at ht ⊢
      have hc' : w1.cell? ⟨b, off + k, none⟩ = some (.int .i64 x) := hc
      have Ht := Lib.hid ht
      clear ht hc
      by_cases hx : m < x
      · go_wp2
        go_round
        case rel => exact ⟨k + 1, by omega, by go_num, by rw [Ht.out, if_pos hx]⟩
        case measure => simp [intOf]; omega
      · go_wp2
        go_round
        case rel => exact ⟨k + 1, by omega, by go_num, by rw [Ht.out, if_neg hx]⟩
        case measure => simp [intOf]; omega
    · obtain rfl : k = n := by omega
      have ht : L.take k = L := List.take_of_length_le (by rw [Hn.out]; omega)
      rw [ht]
      clear ht
      go_wp2
      go_ret
      exact ⟨rfl, HB1.out⟩
end Go.Proofs.YtmncihhofppkdaaDoor
