/- What a box is in memory: its epochs, whose chains lie in blocks of their own; plain laws of chapter 23. -/
import Derived.Test.YtelgjaiknaalkaaGreatDoorPn19
import Derived.BigQuiet
import Derived.Deep.QuietTactic
import Derived.Deep.RegionHeld3
import Derived.Lib.SliceRun
import Derived.Deep.RegionLaw
import Derived.Lib.Walk
namespace Go.Proofs.YtelgjaiknaalkaaGreatDoor
open Go.RowKit
set_option linter.unusedVariables false
set_option linter.unusedSimpArgs false
/-- the blocks of one chain's lines -/
def chFoot (gC gl : Nat) (xs : List LP) : List Nat := gC :: gl :: (xs.map LP.gm ++ xs.flatMap fun x => x.hp.map Prod.snd)
theorem ChAt.of_same {w w' : World} {gC gl : Nat} {xs : List LP} (c : ChAt w gC gl xs) (h : ∀ k ∈ chFoot gC gl xs, w'.heap[k]? = w.heap[k]?) : ChAt w' gC gl xs :=
  ⟨(h gC (by simp [chFoot])).trans c.top, (h gl (by simp [chFoot])).trans c.lines, c.ok, fun x hx => ⟨(c.held x hx).map.at_ (h _ (by
      unfold chFoot; simp only [List.mem_cons, List.mem_append]; exact .inr (.inr (.inl (List.mem_map.2 ⟨x, hx, rfl⟩))))), fun p hp => (h _ (by
      unfold chFoot; simp only [List.mem_cons, List.mem_append]; exact .inr (.inr (.inr (List.mem_flatMap.2 ⟨x, hx, List.mem_map.2 ⟨p, hp, rfl⟩⟩))))).trans ((c.held x hx).mem p hp)⟩, c.gms, c.blks⟩
theorem ChAt.foot_lt {w : World} {gC gl : Nat} {xs : List LP} (c : ChAt w gC gl xs) : ∀ k ∈ chFoot gC gl xs, k < w.heap.size := by
  intro k hk
  unfold chFoot at hk
  simp only [List.mem_cons, List.mem_append] at hk
  rcases hk with rfl | rfl | hk | hk
  · exact c.top.lt
  · exact c.lines.lt
  · exact c.gm_lt k hk
  · exact c.blk_lt k hk
/-- a chain's blocks are all others -/
theorem ChAt.foot_nd {w : World} {gC gl : Nat} {xs : List LP} (c : ChAt w gC gl xs) : (chFoot gC gl xs).Nodup := by
  have h1 : w.heap[gC]? = some (.cells #[.slice (some ⟨gl, 0, none⟩) xs.length xs.length] 117 (0, 0)) := c.top
  have h2 : w.heap[gl]? = some (.cells (xs.flatMap LP.cells).toArray 130 (0, 0)) := c.lines
  have hm : ∀ k ∈ xs.map LP.gm, ∀ (cs : Array Value) (T : TypeId), w.heap[k]? ≠ some (.cells cs T (0, 0)) := fun k hk cs T e => by
    obtain ⟨x, hx, rfl⟩ := List.mem_map.1 hk
    exact (c.held x hx).map.not_cells e rfl
  have hb : ∀ k ∈ xs.flatMap (fun x => x.hp.map Prod.snd), ∃ cs, w.heap[k]? = some (.cells cs 5 (0, 0)) := fun k hk => by
    obtain ⟨x, hx, hk⟩ := List.mem_flatMap.1 hk
    obtain ⟨p, hp, rfl⟩ := List.mem_map.1 hk
    exact ⟨_, (c.held x hx).mem p hp⟩
  unfold chFoot
  refine List.nodup_cons.2 ⟨?_, List.nodup_cons.2 ⟨?_, List.nodup_append.2 ⟨c.gms, c.blks, fun a ha b hb' e => ?_⟩⟩⟩
  · simp only [List.mem_cons, List.mem_append, not_or]
    refine ⟨fun e => ?_, fun h => hm _ h _ _ h1, fun h => ?_⟩
    · rw [← e, h1] at h2; injection h2 with h2; injection h2 with _ hT _; exact absurd hT (by decide)
    · obtain ⟨cs, h3⟩ := hb _ h
      rw [h1] at h3; injection h3 with h3; injection h3 with _ hT _; exact absurd hT (by decide)
  · simp only [List.mem_append, not_or]
    refine ⟨fun h => hm _ h _ _ h2, fun h => ?_⟩
    obtain ⟨cs, h3⟩ := hb _ h
    rw [h2] at h3; injection h3 with h3; injection h3 with _ hT _; exact absurd hT (by decide)
  · subst e
    obtain ⟨cs, h3⟩ := hb _ hb'
    exact hm _ ha _ _ h3

/-- a block of another type is none of a chain's -/
theorem ChAt.out {w : World} {gC gl : Nat} {xs : List LP} (c : ChAt w gC gl xs) {cs : Array Value} {T : TypeId} {g : Nat} (hg : w.heap[g]? = some (.cells cs T (0, 0))) (h1 : T ≠ 117) (h2 : T ≠ 130) (h3 : T ≠ 5) : g ∉ chFoot gC gl xs := by
  intro hm
  unfold chFoot at hm
  simp only [List.mem_cons, List.mem_append] at hm
  rcases hm with rfl | rfl | hm | hm
  · have h4 : w.heap[g]? = some (.cells #[.slice (some ⟨gl, 0, none⟩) xs.length xs.length] 117 (0, 0)) := c.top
    rw [h4] at hg; injection hg with hg; injection hg with _ hT _; exact h1 hT.symm
  · have h4 : w.heap[g]? = some (.cells (xs.flatMap LP.cells).toArray 130 (0, 0)) := c.lines
    rw [h4] at hg; injection hg with hg; injection hg with _ hT _; exact h2 hT.symm
  · obtain ⟨x, hx, rfl⟩ := List.mem_map.1 hm
    exact (c.held x hx).map.not_cells hg rfl
  · obtain ⟨x, hx, hm⟩ := List.mem_flatMap.1 hm
    obtain ⟨p, hp, rfl⟩ := List.mem_map.1 hm
    have h4 : w.heap[p.2]? = some (.cells ((p.1.key ++ p.1.nonce).map b8).toArray 5 (0, 0)) := (c.held x hx).mem p hp
    rw [h4] at hg; injection hg with hg; injection hg with _ hT _; exact h3 hT.symm
/-- an epoch: its chains, its number, its holder's leaf -/
structure EP where
  gC : Nat
  gl : Nat
  xs : List LP
  no : Int
  leaf : Nat
def EP.cells (e : EP) : List Value := [.pointer (some ⟨e.gC, 0, none⟩), .int .i64 e.no, .int .i64 (e.leaf : Int)]
def EP.foot (e : EP) : List Nat := chFoot e.gC e.gl e.xs
theorem EP.cells_len (e : EP) : e.cells.length = 3 := rfl
theorem EP.cells_one (e : EP) : ∀ u ∈ e.cells, u.oneCell' = true := by
  intro u hu
  simp only [EP.cells, List.mem_cons, List.not_mem_nil, or_false] at hu
  rcases hu with rfl | rfl | rfl <;> rfl
/-- a box: its group, the slice of its epochs, these, whether it was cleared -/
structure BX where
  grp : List (BitVec 8)
  v : Value
  es : List EP
  clr : Bool
def BX.cells (b : BX) : List Value := b.grp.map b8 ++ [b.v, .bool b.clr]
def BX.efoot (b : BX) : List Nat := b.es.flatMap EP.foot
def BX.foot (gB : Nat) (b : BX) : List Nat := gB :: (b.v.ownBlock.toList ++ b.efoot)
/-- block gB: a box; all it holds lies at and above base -/
structure BoxAt (w : World) (base gB : Nat) (b : BX) : Prop where
  blk : Blk w gB 76 b.cells
  glen : b.grp.length = 32
  row : w.ownsRow base 80 3 b.v b.es.length (b.es.flatMap EP.cells)
  ch : ∀ e ∈ b.es, ChAt w e.gC e.gl e.xs
  bnd : ∀ e ∈ b.es, e.leaf < e.xs.length ∧ e.xs.length ≤ 32 ∧ 0 ≤ e.no ∧ e.no ≤ 4294967295
  rise : b.es.Pairwise fun x y => x.no < y.no
  many : b.es.length ≤ 5
  nd : b.efoot.Nodup
  low : base ≤ gB ∧ ∀ k ∈ b.efoot, base ≤ k
section
variable {w w' : World} {base gB : Nat} {b : BX}
theorem BX.cells_len (h : b.grp.length = 32) : b.cells.length = 34 := by simp [BX.cells, h]
theorem BX.c32 (h : b.grp.length = 32) : b.cells[32]? = some b.v := by
  unfold BX.cells; rw [List.getElem?_append_right (by simp [h])]; simp [h]
theorem BX.c33 (h : b.grp.length = 32) : b.cells[33]? = some (.bool b.clr) := by
  unfold BX.cells; rw [List.getElem?_append_right (by simp [h])]; simp [h]
theorem row_in {E : TypeId} {K n g : Nat} {v : Value} {us : List Value} (h : w.ownsRow base E K v n us) (hv : v.ownBlock = some g) : base ≤ g ∧ g < w.heap.size ∧ ∃ cs, w.heap[g]? = some (.cells cs E (0, 0)) := by
  rcases h.2 with ⟨rfl, -⟩ | ⟨g', cap, cur, rfl, hb, hg, -⟩
  · cases hv
  · injection hv with hv
    have hv' : g' = g := hv
    subst hv'
    refine ⟨hb, ?_, cur, hg⟩
    rcases Nat.lt_or_ge g' w.heap.size with h1 | h1
    · exact h1
    · rw [Array.getElem?_eq_none h1] at hg; cases hg
theorem row_same {E : TypeId} {K n : Nat} {v : Value} {us : List Value} (h : w.ownsRow base E K v n us) (hs : ∀ g, v.ownBlock = some g → w'.heap[g]? = w.heap[g]?) : w'.ownsRow base E K v n us := by
  refine ⟨h.1, ?_⟩
  rcases h.2 with h0 | ⟨g, cap, cur, hv, hbg, hg, rest⟩
  · exact .inl h0
  · exact .inr ⟨g, cap, cur, hv, hbg, (hs g (by rw [hv]; rfl)).trans hg, rest⟩
theorem BoxAt.foot_lt (h : BoxAt w base gB b) : ∀ k ∈ BX.foot gB b, base ≤ k ∧ k < w.heap.size := by
  intro k hk
  simp only [BX.foot, List.mem_cons, List.mem_append, Option.mem_toList] at hk
  rcases hk with rfl | hk | hk
  · exact ⟨h.low.1, h.blk.lt⟩
  · obtain ⟨h1, h2, -⟩ := row_in h.row hk
    exact ⟨h1, h2⟩
  · refine ⟨h.low.2 k hk, ?_⟩
    obtain ⟨e, he, hk⟩ := List.mem_flatMap.1 hk
    exact (h.ch e he).foot_lt k hk
theorem BoxAt.of_same (h : BoxAt w base gB b) (hs : ∀ k ∈ BX.foot gB b, w'.heap[k]? = w.heap[k]?) : BoxAt w' base gB b :=
  ⟨(hs gB (by simp [BX.foot])).trans h.blk, h.glen, row_same h.row (fun g hg => hs g (by simp [BX.foot, hg])), fun e he => (h.ch e he).of_same (fun k hk => hs k (by
    simp only [BX.foot, List.mem_cons, List.mem_append]
    exact .inr (.inr (List.mem_flatMap.2 ⟨e, he, hk⟩)))), h.bnd, h.rise, h.many, h.nd, h.low⟩
theorem BoxAt.below (h : BoxAt w base gB b) (hb : Below w.heap.size w w') : BoxAt w' base gB b := h.of_same (fun k hk => hb.block k (h.foot_lt k hk).2)
theorem BoxAt.frm {S : List Nat} (h : BoxAt w base gB b) (f : Frm w w' S) (hS : ∀ k ∈ BX.foot gB b, k ∉ S) : BoxAt w' base gB b := h.of_same (fun k hk => f.block k (h.foot_lt k hk).2 (hS k hk))
theorem BoxAt.drew (h : BoxAt w base gB b) : BoxAt w.drew base gB b := h.of_same (fun k hk => rfl)
theorem BoxAt.alloc (h : BoxAt w base gB b) (o : Obj) : BoxAt (w.alloc o) base gB b := h.below ((Below.refl _ w).alloc (Nat.le_refl _) o)
theorem BoxAt.gB_lt (h : BoxAt w base gB b) : gB < w.heap.size := h.blk.lt
/-- the box's own block and its rows are none of its chains' -/
theorem BoxAt.gB_out (h : BoxAt w base gB b) {e : EP} (he : e ∈ b.es) : ∀ {cs : Array Value} {T : TypeId} {g : Nat}, w.heap[g]? = some (.cells cs T (0, 0)) → T ≠ 117 → T ≠ 130 → T ≠ 5 → g ∉ e.foot := by
  intro cs T g hg h1 h2 h3
  exact (h.ch e he).out hg h1 h2 h3
end
/-- an epoch's model -/
structure EM where
  no : Int
  leaf : Nat
  ls : List LineM
/-- a box's model -/
structure BM where
  grp : List (BitVec 8)
  es : List EM
  clr : Bool
def EP.m (e : EP) : EM := ⟨e.no, e.leaf, e.xs.map LP.l⟩
def BX.m (b : BX) : BM := ⟨b.grp, b.es.map EP.m, b.clr⟩
def emptyM : BM := ⟨List.replicate 32 0#8, [], false⟩
/-- lines that nobody asked yet -/
def newLs (n : Nat) (s : List (BitVec 8)) : List LineM := (List.range n).map fun i => startL (leafS n i s)
def lastNo (es : List EM) : Int := match es.getLast? with
  | none => -1
  | some e => e.no
def enterE (b : BM) (grp : List (BitVec 8)) (no leaves leaf : Int) : Nat :=
  if b.clr then 10 else if soundB leaves = false ∨ leaf < 0 ∨ leaves ≤ leaf then 3 else if no < 0 ∨ 4294967295 < no then 6 else if b.es ≠ [] ∧ (grp ≠ b.grp ∨ no ≤ lastNo b.es) then 6 else 0
def pushE {α : Type} (es : List α) (e : α) : List α := if 4 ≤ es.length then (es ++ [e]).tail else es ++ [e]
def enterM (b : BM) (grp : List (BitVec 8)) (no leaves leaf : Int) (s : List (BitVec 8)) : BM :=
  if enterE b grp no leaves leaf = 0 then ⟨grp, pushE b.es ⟨no, leaf.toNat, newLs leaves.toNat s⟩, false⟩ else b
end Go.Proofs.YtelgjaiknaalkaaGreatDoor
namespace Go.Proofs.YtelgjaiknaalkaaGreatDoor
open Go.RowKit
set_option linter.unusedVariables false
set_option linter.unusedSimpArgs false
section
variable {w w' : World} {base gB : Nat} {b : BX}
/-- the cells of an epoch in its row -/
theorem BoxAt.at_row (h : BoxAt w base gB b) {g m c : Nat} (hv : b.v = .slice (some ⟨g, 0, none⟩) m c) {i : Nat} (hi : i < b.es.length) :
    w.cell? ⟨g, i * 3, none⟩ = some (.pointer (some ⟨b.es[i].gC, 0, none⟩)) ∧ w.cell? ⟨g, i * 3 + 1, none⟩ = some (.int .i64 b.es[i].no) ∧ w.cell? ⟨g, i * 3 + 2, none⟩ = some (.int .i64 (b.es[i].leaf : Int)) := by
  have hr := h.row
  rw [hv] at hr
  have hc : ∀ j u, b.es[i].cells[j]? = some u → w.cell? ⟨g, i * 3 + j, none⟩ = some u := fun j u hu => by
    have h1 := rflat_at (f := EP.cells) (K := 3) (xs := b.es) (k := i) (x := b.es[i]) (fun x _ => x.cells_len) (List.getElem?_eq_getElem hi) j u hu
    have h2 := World.ownsRow.cells (g := g) hr rfl _ u h1
    rw [Addr.add_lit, Nat.zero_add, Nat.mul_comm] at h2
    exact h2
  exact ⟨hc 0 _ rfl, hc 1 _ rfl, hc 2 _ rfl⟩
theorem BoxAt.v_some (h : BoxAt w base gB b) (hn : 0 < b.es.length) : ∃ g c, b.v = .slice (some ⟨g, 0, none⟩) b.es.length c ∧ base ≤ g ∧ g < w.heap.size ∧ b.es.length ≤ c := by
  obtain ⟨A, c, hv, hr, -, hc, -⟩ := rowS_shape h.row
  obtain ⟨g, off, e, hg, -⟩ := hr (by rw [rflat_len (K := 3) (fun x _ => x.cells_len)]; omega)
  rcases h.row.2 with ⟨-, h0⟩ | ⟨g', cap, cur, hv', hbg, hg', hnc, -⟩
  · omega
  · refine ⟨g', cap, hv', hbg, ?_, hnc⟩
    rcases Nat.lt_or_ge g' w.heap.size with h1 | h1
    · exact h1
    · rw [Array.getElem?_eq_none h1] at hg'; cases hg'
theorem BoxAt.cell32 (h : BoxAt w base gB b) : w.cell? ⟨gB, 32, none⟩ = some b.v := h.blk.cell 32 (BX.c32 h.glen)
theorem BoxAt.cell33 (h : BoxAt w base gB b) : w.cell? ⟨gB, 33, none⟩ = some (.bool b.clr) := h.blk.cell 33 (BX.c33 h.glen)
theorem BoxAt.drewN (h : BoxAt w base gB b) (q : Nat) : BoxAt (w.drewN q) base gB b := h.of_same (fun k hk => rfl)
end
set_option maxRecDepth 100000
theorem last_nil (w : World) : Calls Tryz.prog 33 #[.pointer none] w fun e w' => e = .returned (.pointer none) ∧ ∃ q, w' = w.drewN q := by
  go_enter Tryz.func33, Tryz.ntmps33
  go_wp2_with fail
  go_ret
  exact ⟨rfl, 0, rfl⟩
theorem last_empty {w : World} {base gB : Nat} {b : BX} (h : BoxAt w base gB b) (hn : b.es = []) : Calls Tryz.prog 33 #[.pointer (some ⟨gB, 0, none⟩)] w fun e w' => e = .returned (.pointer none) ∧ ∃ q, w' = w.drewN q := by
  obtain ⟨A, c, hv, -⟩ := rowS_shape h.row
  have c32 := h.cell32
  rw [hv, hn] at c32
  simp only [List.length_nil] at c32
  clear h hv hn
  go_enter Tryz.func33, Tryz.ntmps33
  go_wp2_with fail
  go_ret
  exact ⟨rfl, 0, rfl⟩
theorem last_some {w : World} {base gB : Nat} {b : BX} (h : BoxAt w base gB b) {n g c : Nat} (hn : b.es.length = n + 1) (hv : b.v = .slice (some ⟨g, 0, none⟩) (n + 1) c) :
    Calls Tryz.prog 33 #[.pointer (some ⟨gB, 0, none⟩)] w fun e w' => e = .returned (.pointer (some ⟨g, n * 3, none⟩)) ∧ ∃ q, w' = w.drewN q := by
  have c32 := h.cell32
  have hm := h.many
  rw [hv] at c32
  obtain ⟨m, hme⟩ : ∃ m, m = n + 1 := ⟨_, rfl⟩
  rw [← hme] at c32
  have hsi : (m : Int) - 1 = (n : Int) := by omega
  have h0 : ((m : Int) = 0) = False := by simp; omega
  have h1 : (0 : Int) ≤ (n : Int) := by omega
  have h2 : (n : Int) < (m : Int) := by omega
  have h3 : n < m := by omega
  have hw : IntKind.i64.wrap (n : Int) = (n : Int) := by unfold IntKind.wrap; simp [IntKind.bits, IntKind.signed]; omega
  clear h hv hn hm hme
  go_enter Tryz.func33, Tryz.ntmps33
  go_wp2_with fail
  go_quiet (fail)
  go_wp2_with fail
  go_ret
  exact ⟨rfl, _, rfl⟩
theorem built_box0 : Tryz.prog.built 76 [] = some (BX.cells ⟨List.replicate 32 0#8, .slice none 0 0, [], false⟩).toArray := by kernel_rfl
theorem BoxAt.fresh {w : World} {base gB : Nat} {c : Bool} (hb : Blk w gB 76 (BX.cells ⟨List.replicate 32 0#8, .slice none 0 0, [], c⟩)) (hB : base ≤ gB) : BoxAt w base gB ⟨List.replicate 32 0#8, .slice none 0 0, [], c⟩ :=
  ⟨hb, by simp, World.ownsRow_nil w base _ 3, (fun e he => by cases he), (fun e he => by cases he), List.Pairwise.nil, by simp, List.nodup_nil, hB, (fun k hk => by cases hk)⟩
theorem boxNew_any (w : World) : Calls Tryz.prog 9 #[] w fun e w' => e = .returned (.pointer (some ⟨w.heap.size, 0, none⟩)) ∧ BoxAt w' w.heap.size w.heap.size ⟨List.replicate 32 0#8, .slice none 0 0, [], false⟩ ∧ Below w.heap.size w w' := by
  go_enter Tryz.func9, Tryz.ntmps9
  go_wp2_with (refine wpList_bparts rfl 76 [] rfl _ [] rfl built_box0 ?_)
  go_ret
  exact ⟨rfl, BoxAt.fresh (Blk.new w _ _) (Nat.le_refl _), (Below.refl _ w).alloc (Nat.le_refl _) _⟩
theorem clear_nil (w : World) : Calls Tryz.prog 24 #[.pointer none] w fun e w' => e = .returned (.tuple #[]) ∧ w = w' := by
  go_enter Tryz.func24, Tryz.ntmps24
  go_wp2_with fail
  go_end0
  exact ⟨rfl, rfl⟩
end Go.Proofs.YtelgjaiknaalkaaGreatDoor
namespace Go.Proofs.YtelgjaiknaalkaaGreatDoor
open Go.RowKit
set_option linter.unusedVariables false
set_option linter.unusedSimpArgs false
/-- a line of an epoch -/
def lineAt (es : List EM) (i j : Nat) : Option LineM := (es[i]?).bind fun e => e.ls[j]?
def lastLeaf (es : List EM) : Nat := match es[es.length - 1]? with
  | none => 0
  | some e => e.leaf
def lastLine (es : List EM) : Option LineM := lineAt es (es.length - 1) (lastLeaf es)
def setLine (es : List EM) (i j : Nat) (l : LineM) : List EM := match es[i]? with
  | none => es
  | some e => es.set i ⟨e.no, e.leaf, e.ls.set j l⟩
/-- epoch i with other lines -/
def BX.turn (b : BX) (i : Nat) (e : EP) (xs : List LP) : BX := ⟨b.grp, b.v, b.es.set i ⟨e.gC, e.gl, xs, e.no, e.leaf⟩, b.clr⟩
section
variable {w w' : World} {base gB : Nat} {b : BX}
theorem m_es_nil {b : BX} : b.m.es = [] ↔ b.es = [] := by unfold BX.m; simp
theorem bx_line {i j : Nat} (hi : i < b.es.length) (hj : j < b.es[i].xs.length) : lineAt b.m.es i j = some b.es[i].xs[j].l := by
  unfold lineAt BX.m
  simp only [List.getElem?_map, List.getElem?_eq_getElem hi, Option.map_some, Option.bind_some, EP.m, List.getElem?_eq_getElem hj]
theorem bx_lastLeaf {n : Nat} (hn : b.es.length = n + 1) : lastLeaf b.m.es = (b.es[n]'(by omega)).leaf := by
  unfold lastLeaf BX.m
  simp only [List.length_map, hn, Nat.add_sub_cancel, List.getElem?_map, List.getElem?_eq_getElem (show n < b.es.length by omega), Option.map_some, EP.m]
theorem bx_lastLine {n : Nat} (hn : b.es.length = n + 1) (hl : (b.es[n]'(by omega)).leaf < (b.es[n]'(by omega)).xs.length) : lastLine b.m.es = some ((b.es[n]'(by omega)).xs[(b.es[n]'(by omega)).leaf]).l := by
  unfold lastLine
  rw [bx_lastLeaf hn, show b.m.es.length - 1 = n by unfold BX.m; simp [hn]]
  exact bx_line (by omega) hl
theorem bx_turn {i j : Nat} (hi : i < b.es.length) (y : LP) : (b.turn i b.es[i] (b.es[i].xs.set j y)).m = ⟨b.m.grp, setLine b.m.es i j y.l, b.m.clr⟩ := by
  unfold BX.turn BX.m setLine
  simp only [List.getElem?_map, List.getElem?_eq_getElem hi, Option.map_some, EP.m, List.map_set]
theorem turn_cells {es : List EP} {i : Nat} {e : EP} (hi : i < es.length) (he : e.cells = es[i].cells) : (es.set i e).flatMap EP.cells = es.flatMap EP.cells := by
  have h1 : (es.set i e).map EP.cells = es.map EP.cells := by
    rw [List.map_set, he]
    have : (es[i]).cells = (es.map EP.cells)[i]'(by rw [List.length_map]; exact hi) := by rw [List.getElem_map]
    rw [this, List.set_getElem_self]
  rw [List.flatMap_def, List.flatMap_def, h1]
/-- one epoch's lines have turned -/
theorem BoxAt.turn_ {S : List Nat} (h : BoxAt w base gB b) {i : Nat} (hi : i < b.es.length) (F : Frm w w' S) (hS : ∀ k ∈ S, k ∈ b.es[i].foot) {xs : List LP} (hlen : xs.length = b.es[i].xs.length)
    (hc : ChAt w' b.es[i].gC b.es[i].gl xs) (hf : ∀ k ∈ chFoot b.es[i].gC b.es[i].gl xs, k ∈ b.es[i].foot ∨ w.heap.size ≤ k) :
    BoxAt w' base gB (b.turn i b.es[i] xs) ∧ ∀ k ∈ BX.foot gB (b.turn i b.es[i] xs), k ∈ BX.foot gB b ∨ w.heap.size ≤ k := by
  obtain ⟨e', he'⟩ : ∃ e' : EP, e' = ⟨b.es[i].gC, b.es[i].gl, xs, b.es[i].no, b.es[i].leaf⟩ := ⟨_, rfl⟩
  have hfe : e'.foot = chFoot b.es[i].gC b.es[i].gl xs := by rw [he']; rfl
  have hcell : e'.cells = b.es[i].cells := by rw [he']; rfl
  have hnd := h.nd
  have hlt : ∀ z ∈ b.efoot, z < w.heap.size := fun z hz => (h.foot_lt z (by simp only [BX.foot, List.mem_cons, List.mem_append]; exact .inr (.inr hz))).2
  have es : b.es.set i e' = b.es.take i ++ e' :: b.es.drop (i + 1) := List.set_eq_take_append_cons_drop .. |>.trans (if_pos hi)
  have e0 : b.es = b.es.take i ++ b.es[i] :: b.es.drop (i + 1) := by rw [← List.drop_eq_getElem_cons hi, List.take_append_drop]
  have ef : b.efoot = (b.es.take i).flatMap EP.foot ++ (b.es[i].foot ++ (b.es.drop (i + 1)).flatMap EP.foot) := by
    unfold BX.efoot
    conv => lhs; rw [e0]
    rw [List.flatMap_append, List.flatMap_cons]
  have ef' : (b.es.set i e').flatMap EP.foot = (b.es.take i).flatMap EP.foot ++ (e'.foot ++ (b.es.drop (i + 1)).flatMap EP.foot) := by rw [es, List.flatMap_append, List.flatMap_cons]
  have hb : b.turn i b.es[i] xs = ⟨b.grp, b.v, b.es.set i e', b.clr⟩ := by rw [he']; rfl
  rw [ef] at hnd hlt
  have hnd' := nodup_put _ _ _ e'.foot _ hnd hlt (by rw [hfe]; exact hc.foot_nd) (fun z hz => hf z (by rw [← hfe]; exact hz))
  have hbase : base ≤ w.heap.size := Nat.le_of_lt (Nat.lt_of_le_of_lt h.low.1 h.gB_lt)
  have hSlt : ∀ k ∈ S, k < w.heap.size := fun k hk => (h.ch _ (List.getElem_mem hi)).foot_lt k (hS k hk)
  -- what lies in other epochs is none of S
  have hoth : ∀ (j : Nat) (hj : j < b.es.length), j ≠ i → ∀ k ∈ b.es[j].foot, k ∉ S := fun j hj hne k hk hm => by
    have hki := hS k hm
    obtain ⟨a1, a2, a3⟩ := List.nodup_append.1 hnd
    obtain ⟨b1, b2, b3⟩ := List.nodup_append.1 a2
    rcases Nat.lt_or_ge j i with hji | hji
    · refine a3 k (List.mem_flatMap.2 ⟨b.es[j], ?_, hk⟩) k (List.mem_append.2 (.inl hki)) rfl
      rw [List.mem_take_iff_getElem]
      exact ⟨j, by omega, rfl⟩
    · refine b3 k hki k (List.mem_flatMap.2 ⟨b.es[j], ?_, hk⟩) rfl
      rw [List.mem_drop_iff_getElem]
      exact ⟨j - (i + 1), by omega, by congr 1; omega⟩
  have hbS : ∀ {cs : Array Value} {T : TypeId} {g : Nat}, w.heap[g]? = some (.cells cs T (0, 0)) → T ≠ 117 → T ≠ 130 → T ≠ 5 → g ∉ S :=
    fun h1 h2 h3 h4 hm => h.gB_out (List.getElem_mem hi) h1 h2 h3 h4 (hS _ hm)
  rw [hb]
  refine ⟨⟨?_, h.glen, ?_, ?_, ?_, ?_, ?_, ?_, ⟨h.low.1, ?_⟩⟩, ?_⟩
  · exact (F.block gB h.gB_lt (hbS h.blk (by decide) (by decide) (by decide))).trans h.blk
  · show w'.ownsRow base _ 3 b.v (b.es.set i e').length ((b.es.set i e').flatMap EP.cells)
    rw [List.length_set, turn_cells hi hcell]
    refine row_same h.row (fun g hg => ?_)
    obtain ⟨-, h2, cs, h3⟩ := row_in h.row hg
    exact F.block g h2 (hbS h3 (by decide) (by decide) (by decide))
  · intro e he
    obtain ⟨j, hj, rfl⟩ := List.getElem_of_mem he
    have hj' : j < b.es.length := by rw [List.length_set] at hj; exact hj
    by_cases hji : j = i
    · subst hji
      rw [List.getElem_set_self]
      rw [he']; exact hc
    · rw [List.getElem_set_ne (fun e => hji e.symm)]
      exact (h.ch _ (List.getElem_mem hj')).of_same (fun k hk => F.block k ((h.ch _ (List.getElem_mem hj')).foot_lt k hk) (hoth j hj' hji k hk))
  · intro e he
    rcases List.mem_or_eq_of_mem_set he with h1 | rfl
    · exact h.bnd e h1
    · have hb := h.bnd _ (List.getElem_mem hi)
      rw [he']
      refine ⟨?_, ?_, hb.2.2⟩
      · show b.es[i].leaf < xs.length
        rw [hlen]; exact hb.1
      · show xs.length ≤ 32
        rw [hlen]; exact hb.2.1
  · have hr := h.rise
    rw [List.pairwise_iff_getElem] at hr ⊢
    intro j k hj hk hjk
    rw [List.length_set] at hj hk
    have hn : ∀ (m : Nat) (hm : m < b.es.length), ((b.es.set i e')[m]'(by rw [List.length_set]; exact hm)).no = b.es[m].no := fun m hm => by
      by_cases hmi : m = i
      · subst hmi; rw [List.getElem_set_self, he']
      · rw [List.getElem_set_ne (fun e => hmi e.symm)]
    rw [hn j hj, hn k hk]
    exact hr j k hj hk hjk
  · show (b.es.set i e').length ≤ 5
    rw [List.length_set]; exact h.many
  · show ((b.es.set i e').flatMap EP.foot).Nodup
    rw [ef']; exact hnd'
  · intro k hk
    have hk' : k ∈ (b.es.set i e').flatMap EP.foot := hk
    rw [ef'] at hk'
    rcases List.mem_append.1 hk' with h1 | h1
    · exact h.low.2 k (by rw [ef]; exact List.mem_append.2 (.inl h1))
    rcases List.mem_append.1 h1 with h1 | h1
    · rcases hf k (by rw [← hfe]; exact h1) with h2 | h2
      · exact h.low.2 k (by rw [ef]; exact List.mem_append.2 (.inr (List.mem_append.2 (.inl h2))))
      · omega
    · exact h.low.2 k (by rw [ef]; exact List.mem_append.2 (.inr (List.mem_append.2 (.inr h1))))
  · intro k hk
    have hk' : k = gB ∨ k ∈ b.v.ownBlock.toList ∨ k ∈ (b.es.set i e').flatMap EP.foot := by
      have h1 : k ∈ gB :: (b.v.ownBlock.toList ++ (b.es.set i e').flatMap EP.foot) := hk
      simpa only [List.mem_cons, List.mem_append] using h1
    unfold BX.foot
    simp only [List.mem_cons, List.mem_append]
    rcases hk' with h1 | h1 | h1
    · exact .inl (.inl h1)
    · exact .inl (.inr (.inl h1))
    · rw [ef'] at h1
      rw [ef]
      simp only [List.mem_append] at h1 ⊢
      rcases h1 with h1 | h1 | h1
      · exact .inl (.inr (.inr (.inl h1)))
      · rcases hf k (by rw [← hfe]; exact h1) with h2 | h2
        · exact .inl (.inr (.inr (.inr (.inl h2))))
        · exact .inr h2
      · exact .inl (.inr (.inr (.inr (.inr h1))))
theorem Frm.drewN {S : List Nat} (h : Frm w w' S) (q : Nat) : Frm w (w'.drewN q) S := ⟨h.os, h.tape, h.output, h.size, h.block⟩
end
set_option maxRecDepth 100000
theorem drewN_below {w w1 : World} {q : Nat} (h : w1 = w.drewN q) : Below w.heap.size w w1 := by rw [h]; exact below_drewN (Below.refl _ w) q
theorem next_nil (w : World) : Calls Tryz.prog 27 #[.pointer none] w fun e w' => e = .returned (.int .i64 0) ∧ ∃ q, w' = w.drewN q := by
  have HL := Lib.hid (last_nil w)
  go_enter Tryz.func27, Tryz.ntmps27
  go_wp2_with fail
  refine HL.out.mono ?_
  rintro e w1 ⟨rfl, q, rfl⟩
  go_wp2_with fail
  go_ret
  exact ⟨rfl, q, rfl⟩
end Go.Proofs.YtelgjaiknaalkaaGreatDoor
namespace Go.Proofs.YtelgjaiknaalkaaGreatDoor
open Go.RowKit
set_option linter.unusedVariables false
set_option linter.unusedSimpArgs false
set_option maxRecDepth 100000
theorem epochs_nil (w : World) : Calls Tryz.prog 26 #[.pointer none] w fun e w' => e = .returned (.slice none 0 0) ∧ w = w' := by
  go_enter Tryz.func26, Tryz.ntmps26
  go_wp2_with fail
  go_ret
  exact ⟨rfl, rfl⟩
end Go.Proofs.YtelgjaiknaalkaaGreatDoor
namespace Go.Proofs.YtelgjaiknaalkaaGreatDoor
open Go.RowKit
set_option linter.unusedVariables false
set_option linter.unusedSimpArgs false
set_option maxRecDepth 100000
def zeroEp : List Value := [.pointer none, .int .i64 0, .int .i64 0]
theorem run_zeroEp (w : World) : (zeroValue 80).run Tryz.prog w = .ok (.agg zeroEp.toArray) w := by kernel_rfl
theorem infoEpoch : (Tryz.prog.info? 80).map (fun i => (i.zero, i.size, i.bytes)) = some (some (.agg zeroEp.toArray), 3, 24) := by kernel_rfl
/-- one epoch is made zero -/
theorem run_clear_ep {w : World} {g : Nat} {pre old post : List Value} (hb : Blk w g 80 (pre ++ (old ++ post))) (hl : old.length = 3) (ty : TypeId) (c : Nat) :
    (Builtin.clear_ #[74] ty #[.slice (some ⟨g, pre.length, none⟩) 1 c]).run Tryz.prog w = .ok (.tuple #[]) (w.setCells g pre.length zeroEp) := by
  have hst := run_storeCells_cells (P := Tryz.prog) g pre.length zeroEp 0 w (fun j hj => by
      have hj3 : j < 3 := hj
      have : (pre ++ (old ++ post))[pre.length + j]? = some (old[j]'(by omega)) := by
        rw [List.getElem?_append_right (by omega), Nat.add_sub_cancel_left, List.getElem?_append_left (by omega)]; simp
      rw [Nat.add_zero, hb.cell _ this]; rfl) (fun j hj => by rw [Nat.add_zero]; exact hb.frozen _) (by decide)
  simp only [Nat.add_zero] at hst
  have hz : (Builtin.zeroCells (Value.agg #[.pointer none, .int .i64 0, .int .i64 0]).cells 1).toList = zeroEp := by kernel_rfl
  simp [Builtin.clear_, run_underlying Tryz.underlying74, run_zeroEp, hz, hst]
set_option maxHeartbeats 1000000 in
theorem delete_any {w : World} {base g c : Nat} {us : List Value} (h : w.ownsRow base 80 3 (.slice (some ⟨g, 0, none⟩) 5 c) 5 us) (h1 : ∀ u ∈ us, u.oneCell' = true) :
    Calls Tryz.prog 30 #[.slice (some ⟨g, 0, none⟩) 5 c, .int .i64 0, .int .i64 1] w fun e w' => e = .returned (.slice (some ⟨g, 0, none⟩) 4 c) ∧
      w'.ownsRow base 80 3 (.slice (some ⟨g, 0, none⟩) 4 c) 4 (us.drop 3) ∧ w.grownBy w' (some g) := by
  obtain ⟨i0, hi0, hz0, hs0, hb0⟩ := info_parts infoEpoch
  have hul : us.length = 15 := h.1
  have hc5 : 5 ≤ c ∧ c ≤ maxLen := by
    rcases h.2 with ⟨e, -⟩ | ⟨g', cap, cur, e, -, -, h2, h3, -⟩
    · cases e
    · injection e with e1 e2 e3; subst e3; exact ⟨h2, h3⟩
  obtain ⟨spare, hB, hbase⟩ := row_blk h
  have hsp : (us ++ spare).length = c * 3 := by
    rcases h.2 with ⟨e, -⟩ | ⟨g', cap, cur, e, -, hg, -, -, hcs, -⟩
    · cases e
    · injection e with e1 e2 e3
      injection e1 with e1; injection e1 with e1
      subst e1; subst e3
      have hB' : w.heap[g]? = some (.cells (us ++ spare).toArray 80 (0, 0)) := hB
      rw [hB'] at hg; injection hg with hg; injection hg with hg
      rw [← hcs, ← hg]; simp
  obtain ⟨a, m, z, e3, hal, hml, hzl⟩ : ∃ a m z : List Value, us = a ++ (m ++ z) ∧ a.length = 3 ∧ m.length = 9 ∧ z.length = 3 :=
    ⟨us.take 3, (us.drop 3).take 9, us.drop 12, by rw [show us.drop 12 = (us.drop 3).drop 9 by rw [List.drop_drop], List.take_append_drop, List.take_append_drop], by simp [hul], by simp [hul], by simp [hul]⟩
  have hd : us.drop 3 = m ++ z := by rw [e3, ← hal, List.drop_left]
  rw [hd]
  -- behind the append
  obtain ⟨W1, hW1⟩ : ∃ W1, W1 = w.drew.setCells g (0 + 0 * 3) (m ++ z) := ⟨_, rfl⟩
  have hw1 := blk_setCells (g := g) (T := 80) (m ++ z) [] (a ++ m) (z ++ spare) w.drew (by simp [hal, hml, hzl]) ((show Blk w.drew g _ (us ++ spare) from hB).cast (by rw [e3]; simp))
  have eW : w.drew.setCells g ([] : List Value).length (m ++ z) = W1 := by rw [hW1]; rfl
  rw [eW] at hw1
  -- behind the clear
  obtain ⟨W2, hW2⟩ : ∃ W2, W2 = W1.setCells g 12 zeroEp := ⟨_, rfl⟩
  have hw2 := blk_setCells (g := g) (T := 80) zeroEp (m ++ z) z spare W1 (by rw [hzl]; rfl) (hw1.1.cast (by simp))
  have hpl : (m ++ z).length = 12 := by simp [hml, hzl]
  rw [hpl, ← hW2] at hw2
  have hcl : ∀ ty c', (Builtin.clear_ #[74] ty #[.slice (some ⟨g, 12, none⟩) 1 c']).run Tryz.prog W1 = .ok (.tuple #[]) W2 := fun ty c' => by
    have h2 := run_clear_ep (hw1.1.cast (show [] ++ ((m ++ z) ++ (z ++ spare)) = (m ++ z) ++ (z ++ spare) by simp)) hzl ty c'
    rw [hpl, ← hW2] at h2
    exact h2
  have s1 := Lib.hid (show (m ++ z).length = 4 * 3 by rw [hpl])
  have s2 := Lib.hid (show ∀ u ∈ m ++ z, u.oneCell' = true from fun u hu => h1 u (by rw [e3]; exact List.mem_append.2 (.inr hu)))
  have s3 := Lib.hid (show ∀ j, j < (m ++ z).length → (w.drew.cell? ⟨g, 0 + 0 * 3 + j, none⟩).isSome = true ∧ w.drew.frozen? ⟨g, 0 + 0 * 3 + j, none⟩ = false from fun j hj => by
    have hjl : j < us.length := by rw [hpl] at hj; omega
    have hcell := (show Blk w.drew g _ (us ++ spare) from hB).cell j (u := us[j]) (by rw [List.getElem?_append_left hjl]; simp)
    rw [show 0 + 0 * 3 + j = j by omega]
    exact ⟨by rw [hcell]; rfl, (show Blk w.drew g _ (us ++ spare) from hB).frozen j⟩)
  have s4 := Lib.hid (show ∀ j u, (m ++ z)[j]? = some u → w.drew.cell? ((⟨g, 3, none⟩ : Addr).add j) = some u from fun j u hu => by
    rw [Addr.add_lit]
    refine (show Blk w.drew g _ (us ++ spare) from hB).cell _ ?_
    have hj := (List.getElem?_eq_some_iff.1 hu).1
    rw [List.getElem?_append_left (by rw [hpl] at hj; omega), e3, List.getElem?_append_right (by omega), hal, Nat.add_sub_cancel_left]
    exact hu)
  have HW1 := Lib.hid hW1
  have HW2 := Lib.hid hw2
  have HG1 := Lib.hid hw1.2
  have HSp := Lib.hid hsp
  have HU := Lib.hid (show us.length = 15 from hul)
  have Hpl := Lib.hid hpl
  have Hd := Lib.hid e3
  have hc0 : ¬ (c = 1) := by omega
  have hc1 : 1 ≤ c := by omega
  have hc2 : 5 ≤ c := hc5.1
  have hc3 : (5 : Int) ≤ (c : Int) := by omega
  have hc4 : ¬ (c = 4) := by omega
  have Hcm := Lib.hid hc5.2
  have Hbase := Lib.hid hbase
  clear h h1 hul hc5 hB hsp e3 hd hW1 hw1 eW hW2 hw2 hpl hal hml hzl hbase
  go_enter Tryz.func30, Tryz.ntmps30
  go_wp2_with fail
  go_region_law (refine step_append_room rfl (.tmp 22) (.tmp 25) 74 rfl 80 i0 3 Tryz.underlying74 hi0 hs0 g 0 0 c (by simp [Act.eval, Act.put]) ⟨g, 3, none⟩ 4 (c - 1) (m ++ z) (by simp [Act.eval, Act.put]) s1.out s4.out s2.out (by omega) s3.out ?_; rw [← HW1.out])
  go_wp2_with fail
  go_ret
  refine ⟨rfl, ⟨Hpl.out, .inr ⟨g, c, _, rfl, Hbase.out, HW2.out.1, by omega, Hcm.out, ?_, ?_⟩⟩, grownBy_trans (show w.grownBy W1 (some g) from ⟨HG1.out.os, HG1.out.tape, HG1.out.output, HG1.out.size, HG1.out.block⟩) HW2.out.2 (fun _ e => .inl e)⟩
  · have h5 := HSp.out
    have h6 := HU.out
    have h7 := Hpl.out
    rw [List.length_append] at h5
    simp only [List.size_toArray, List.length_append] at h7 ⊢
    show m.length + z.length + (zeroEp.length + spare.length) = c * 3
    rw [show zeroEp.length = 3 from rfl]
    omega
  · show ((m ++ z) ++ (zeroEp ++ spare)).take (4 * 3) = m ++ z
    rw [List.take_left' Hpl.out]
end Go.Proofs.YtelgjaiknaalkaaGreatDoor
