/- PLAIN LAWS: a box's group is another, an epoch is put behind, the first epoch is deleted: what of a box lies in memory then. -/
import Derived.Test.YtelgjaiknaalkaaGreatDoorPn20
import Derived.Test.YtelgjaiknaalkaaGreatDoorPn08
namespace Go.Proofs.YtelgjaiknaalkaaGreatDoor
open Go.RowKit
set_option linter.unusedVariables false
set_option linter.unusedSimpArgs false
section
variable {w w' : World} {base gB : Nat} {b : BX}
/-- the rows are none of the box's own block -/
theorem BoxAt.row_ne (h : BoxAt w base gB b) : b.v.ownBlock ≠ some gB := fun e => by
  obtain ⟨-, -, cs, h1⟩ := row_in h.row e
  have h2 : w.heap[gB]? = some (.cells b.cells.toArray 76 (0, 0)) := h.blk
  rw [h2] at h1; injection h1 with h1; injection h1 with _ hT _; exact absurd hT (by decide)
theorem BoxAt.gB_notin (h : BoxAt w base gB b) : ∀ e ∈ b.es, gB ∉ e.foot := fun e he => h.gB_out he h.blk (by decide) (by decide) (by decide)
theorem BoxAt.row_notin (h : BoxAt w base gB b) {g : Nat} (hg : b.v.ownBlock = some g) : ∀ e ∈ b.es, g ∉ e.foot := fun e he => by
  obtain ⟨-, -, cs, h1⟩ := row_in h.row hg
  exact h.gB_out he h1 (by decide) (by decide) (by decide)
/-- another group -/
theorem BoxAt.regroup (h : BoxAt w base gB b) (grp : List (BitVec 8)) (hl : grp.length = 32) (hk : Blk w' gB 76 (BX.cells ⟨grp, b.v, b.es, b.clr⟩)) (hg : w.grownBy w' (some gB)) : BoxAt w' base gB ⟨grp, b.v, b.es, b.clr⟩ := by
  refine ⟨hk, hl, row_same h.row (fun g e => hg.block g (row_in h.row e).2.1 (fun e2 => h.row_ne (by rw [e, e2]))), fun e he => (h.ch e he).of_same (fun k hk' => hg.block k ((h.ch e he).foot_lt k hk') (fun e2 => ?_)), h.bnd, h.rise, h.many, h.nd, h.low⟩
  injection e2 with e2
  exact h.gB_notin e he (by rw [← e2]; exact hk')
/-- one more epoch -/
theorem BoxAt.pushed (h : BoxAt w base gB b) {w6 : World} (hm : b.es.length ≤ 4) (e : EP) (N : Nat) (hc : ChAt w e.gC e.gl e.xs) (hnew : ∀ k ∈ e.foot, N ≤ k) (hold : ∀ k ∈ BX.foot gB b, k < N) (hN : N ≤ w.heap.size)
    (hbnd : e.leaf < e.xs.length ∧ e.xs.length ≤ 32 ∧ 0 ≤ e.no ∧ e.no ≤ 4294967295) (hlast : ∀ x ∈ b.es, x.no < e.no) {v' : Value} (hrow : w6.ownsRow base 80 3 v' (b.es.length + 1) (b.es.flatMap EP.cells ++ e.cells)) (hg : Grew w w6 b.v v') :
    BoxAt (w6.setCell ⟨gB, 32, none⟩ v') base gB ⟨b.grp, v', b.es ++ [e], b.clr⟩ ∧ Frm w (w6.setCell ⟨gB, 32, none⟩ v') (BX.foot gB b) ∧ ∀ k ∈ BX.foot gB ⟨b.grp, v', b.es ++ [e], b.clr⟩, k ∈ BX.foot gB b ∨ N ≤ k := by
  have hby := hg.by_
  have h6 : w.heap.size ≤ w6.heap.size := hby.size
  have hbase : base ≤ N := by have := hold gB (by simp [BX.foot]); have := h.low.1; omega
  have hgs := grownBy_set w6 gB 32 v'
  have hB6 : Blk w6 gB 76 b.cells := h.blk.grown hby (fun e => h.row_ne e.symm)
  have hset : b.cells.set 32 v' = BX.cells ⟨b.grp, v', b.es ++ [e], b.clr⟩ := by
    unfold BX.cells
    rw [List.set_append, if_neg (by simp [h.glen])]
    simp [h.glen]
  have hef : BX.efoot ⟨b.grp, v', b.es ++ [e], b.clr⟩ = b.efoot ++ e.foot := by unfold BX.efoot; rw [List.flatMap_append]; simp
  have hv' : ∀ g, v'.ownBlock = some g → (b.v.ownBlock = some g ∨ N ≤ g) := fun g hgv => by
    rcases hg.at_ with h1 | h1
    · exact .inl (by rw [← h1]; exact hgv)
    · rw [h1] at hgv; injection hgv with hgv; exact .inr (by omega)
  have hfar : ∀ x, x ∈ b.es ∨ x = e → ∀ k ∈ x.foot, (w6.setCell ⟨gB, 32, none⟩ v').heap[k]? = w.heap[k]? := fun x hx k hk => by
    have hch : ChAt w x.gC x.gl x.xs := by
      rcases hx with hx | rfl
      · exact h.ch x hx
      · exact hc
    have hlt : k < w.heap.size := hch.foot_lt k hk
    have h1 : some k ≠ some gB := fun e2 => by
      injection e2 with e2
      exact hch.out (T := 76) (cs := b.cells.toArray) h.blk (by decide) (by decide) (by decide) (by rw [← e2]; exact hk)
    have h2 : some k ≠ b.v.ownBlock := fun e2 => by
      obtain ⟨-, -, cs, h3⟩ := row_in h.row e2.symm
      exact hch.out h3 (by decide) (by decide) (by decide) hk
    exact (hgs.block k (by omega) h1).trans (hby.block k hlt h2)
  refine ⟨⟨(hB6.set_ 32 v').cast hset, h.glen, ?_, ?_, ?_, ?_, ?_, ?_, ⟨h.low.1, ?_⟩⟩, ?_, ?_⟩
  · show (w6.setCell ⟨gB, 32, none⟩ v').ownsRow base _ 3 v' (b.es ++ [e]).length ((b.es ++ [e]).flatMap EP.cells)
    rw [List.length_append, List.flatMap_append, List.length_singleton, show [e].flatMap EP.cells = e.cells by simp]
    refine row_same hrow (fun g hgv => hgs.block g (row_in hrow hgv).2.1 (fun e2 => ?_))
    injection e2 with e2
    obtain ⟨-, -, cs, h3⟩ := row_in hrow hgv
    have h4 : w6.heap[gB]? = some (.cells b.cells.toArray 76 (0, 0)) := hB6
    rw [← e2, h3] at h4; injection h4 with h4; injection h4 with _ hT _; exact absurd hT (by decide)
  · intro x hx
    rcases List.mem_append.1 hx with hx | hx
    · exact (h.ch x hx).of_same (hfar x (.inl hx))
    · rw [List.mem_singleton] at hx; subst hx
      exact hc.of_same (hfar x (.inr rfl))
  · intro x hx
    rcases List.mem_append.1 hx with hx | hx
    · exact h.bnd x hx
    · rw [List.mem_singleton] at hx; subst hx; exact hbnd
  · refine List.pairwise_append.2 ⟨h.rise, List.pairwise_singleton _ _, fun x hx y hy => ?_⟩
    rw [List.mem_singleton] at hy; subst hy
    exact hlast x hx
  · show (b.es ++ [e]).length ≤ 5
    rw [List.length_append, List.length_singleton]; omega
  · rw [hef]
    refine List.nodup_append.2 ⟨h.nd, hc.foot_nd, fun x hx y hy e2 => ?_⟩
    subst e2
    have h1 := hold x (by simp only [BX.foot, List.mem_cons, List.mem_append]; exact .inr (.inr hx))
    have h2 := hnew x hy
    omega
  · intro k hk
    rw [hef] at hk
    rcases List.mem_append.1 hk with hk | hk
    · exact h.low.2 k hk
    · have := hnew k hk; omega
  · refine ⟨hgs.os.trans hby.os, hgs.tape.trans hby.tape, hgs.output.trans hby.output, Nat.le_trans hby.size hgs.size, fun k hk hn => ?_⟩
    have h1 : some k ≠ some gB := fun e2 => by injection e2 with e2; subst e2; exact hn (by simp [BX.foot])
    have h2 : some k ≠ b.v.ownBlock := fun e2 => hn (by simp [BX.foot, ← e2])
    exact (hgs.block k (by omega) h1).trans (hby.block k hk h2)
  · intro k hk
    simp only [BX.foot, List.mem_cons, List.mem_append, Option.mem_toList, hef] at hk ⊢
    rcases hk with hk | hk | hk | hk
    · exact .inl (.inl hk)
    · rcases hv' k hk with h1 | h1
      · exact .inl (.inr (.inl h1))
      · exact .inr h1
    · exact .inl (.inr (.inr hk))
    · exact .inr (hnew k hk)
/-- the first of five epochs is gone -/
theorem BoxAt.deleted {g c : Nat} (h : BoxAt w base gB b) (hv : b.v = .slice (some ⟨g, 0, none⟩) 5 c) (h5 : b.es.length = 5) {w8 : World} (hrow : w8.ownsRow base 80 3 (.slice (some ⟨g, 0, none⟩) 4 c) 4 ((b.es.flatMap EP.cells).drop 3)) (hg : w.grownBy w8 (some g)) :
    BoxAt (w8.setCell ⟨gB, 32, none⟩ (.slice (some ⟨g, 0, none⟩) 4 c)) base gB ⟨b.grp, .slice (some ⟨g, 0, none⟩) 4 c, b.es.tail, b.clr⟩ ∧ Frm w (w8.setCell ⟨gB, 32, none⟩ (.slice (some ⟨g, 0, none⟩) 4 c)) (BX.foot gB b) ∧
      ∀ k ∈ BX.foot gB ⟨b.grp, .slice (some ⟨g, 0, none⟩) 4 c, b.es.tail, b.clr⟩, k ∈ BX.foot gB b := by
  obtain ⟨e0, es, he⟩ : ∃ e0 es, b.es = e0 :: es := by
    cases hb : b.es with
    | nil => rw [hb] at h5; cases h5
    | cons x r => exact ⟨x, r, rfl⟩
  have hvo : b.v.ownBlock = some g := by rw [hv]; rfl
  have hgb : g ≠ gB := fun e => h.row_ne (by rw [hvo, e])
  have hgs := grownBy_set w8 gB 32 (.slice (some ⟨g, 0, none⟩) 4 c)
  have hB8 : Blk w8 gB 76 b.cells := h.blk.grown hg (fun e => hgb (by injection e with e; exact e.symm))
  have hset : b.cells.set 32 (.slice (some ⟨g, 0, none⟩) 4 c) = BX.cells ⟨b.grp, .slice (some ⟨g, 0, none⟩) 4 c, b.es.tail, b.clr⟩ := by
    unfold BX.cells
    rw [List.set_append, if_neg (by simp [h.glen])]
    simp [h.glen]
  have ht : b.es.tail = es := by rw [he]; rfl
  have hfe : b.efoot = e0.foot ++ es.flatMap EP.foot := by unfold BX.efoot; rw [he, List.flatMap_cons]
  have hcd : (b.es.flatMap EP.cells).drop 3 = es.flatMap EP.cells := by rw [he, List.flatMap_cons, List.drop_left' e0.cells_len]
  have hl4 : es.length = 4 := by rw [he] at h5; simpa using h5
  rw [hcd] at hrow
  have hmem : ∀ x ∈ es, x ∈ b.es := fun x hx => by rw [he]; exact List.mem_cons_of_mem _ hx
  have hs8 : w.heap.size ≤ w8.heap.size := hg.size
  rw [ht] at hset ⊢
  refine ⟨⟨(hB8.set_ 32 _).cast hset, h.glen, ?_, ?_, fun x hx => h.bnd x (hmem x hx), ?_, ?_, ?_, ⟨h.low.1, ?_⟩⟩, ?_, ?_⟩
  · show (w8.setCell ⟨gB, 32, none⟩ _).ownsRow base _ 3 _ es.length (es.flatMap EP.cells)
    rw [hl4]
    refine row_same hrow (fun k hk => hgs.block k (row_in hrow hk).2.1 (fun e2 => ?_))
    injection e2 with e2
    injection hk with hk
    have hk' : g = k := hk
    exact hgb (by rw [hk', e2])
  · intro x hx
    have c := h.ch x (hmem x hx)
    refine c.of_same (fun k hk => ?_)
    have hlt := c.foot_lt k hk
    have h1 : some k ≠ some gB := fun e2 => by injection e2 with e2; exact h.gB_notin x (hmem x hx) (by rw [← e2]; exact hk)
    have h2 : some k ≠ some g := fun e2 => by injection e2 with e2; exact h.row_notin hvo x (hmem x hx) (by rw [← e2]; exact hk)
    exact (hgs.block k (by omega) h1).trans (hg.block k hlt h2)
  · have := h.rise; rw [he] at this; exact (List.pairwise_cons.1 this).2
  · show es.length ≤ 5; omega
  · have := h.nd; rw [hfe] at this; exact (List.nodup_append.1 this).2.1
  · intro k hk
    exact h.low.2 k (by rw [hfe]; exact List.mem_append.2 (.inr hk))
  · refine ⟨hgs.os.trans hg.os, hgs.tape.trans hg.tape, hgs.output.trans hg.output, Nat.le_trans hg.size hgs.size, fun k hk hn => ?_⟩
    have h1 : some k ≠ some gB := fun e2 => by injection e2 with e2; subst e2; exact hn (by simp [BX.foot])
    have h2 : some k ≠ some g := fun e2 => hn (by injection e2 with e2; subst e2; simp [BX.foot, hvo])
    exact (hgs.block k (by omega) h1).trans (hg.block k hk h2)
  · intro k hk
    simp only [BX.foot, List.mem_cons, List.mem_append, Option.mem_toList] at hk ⊢
    rcases hk with hk | hk | hk
    · exact .inl hk
    · exact .inr (.inl (by rw [hvo]; exact hk))
    · exact .inr (.inr (by rw [hfe]; exact List.mem_append.2 (.inr hk)))
end
end Go.Proofs.YtelgjaiknaalkaaGreatDoor
namespace Go.Proofs.YtelgjaiknaalkaaGreatDoor
open Go.RowKit
set_option linter.unusedSimpArgs false
set_option linter.unusedVariables false
section
variable {P : Program} {ops : Array Oper} {md : Region.Mode} {Q : Exit → Act → World → Prop} {S : World → Prop} {z : Nat}
/-- whatever order is picked, S holds till operation z has come up -/
def wpAnyY (P : Program) (md : Region.Mode) (ops : Array Oper) (Q : Exit → Act → World → Prop) (S : World → Prop) (z : Nat) : Nat → Array Bool → Act → World → Prop
  | 0, L, a, w => Region.ready md ops L = [] ∧ Q .normal a w
  | f + 1, L, a, w => (Region.ready md ops L = [] → Q .normal a w) ∧ ∀ i ∈ Region.ready md ops L, wpOp P ops Q i (fun a' w' => (L.getD z true = false → i ≠ z → S w') ∧ wpAnyY P md ops Q S z f (L.setIfInBounds i true) a' w') a w
theorem wpAny_of_Y : ∀ (f : Nat) (L : Array Bool) (a : Act) (w : World), wpAnyY P md ops Q S z f L a w → wpAny P md ops Q f L a w
  | 0, _, _, _, h => h
  | f + 1, _, _, _, h => ⟨h.1, fun i hi => wpOp_mono (fun a' w' h' => wpAny_of_Y f _ a' w' h'.2) (h.2 i hi)⟩
theorem not_waits {i : Nat} {oj : Oper} {L : Array Bool} (hr : i ∈ Region.ready md ops L) (hall : ∀ e ∈ oj.after, Region.binds md e = true → L.getD e.on false = true) : ∀ e ∈ oj.after, Region.binds md e = true → e.on ≠ i := fun e he hb heq => by
  have g1 := hall e he hb
  have g0 := (mem_ready.1 hr).1
  rw [heq] at g1
  rcases Nat.lt_or_ge i L.size with h' | h'
  · simp [h'] at g0 g1; rw [g0] at g1; cases g1
  · simp [Array.getElem?_eq_none h'] at g1
theorem wpAnyY_first {i : Nat} {oi : Oper} {v : Value} (hi : ops[i]? = some oi) (hsel : Region.noSelect ops = true) (hw : waitsB md ops z i = true) (hQ : ∀ c a w, Q (.panic c) (a.put oi.dst v) w → Q (.panic c) a w) :
    ∀ (f : Nat) (L : Array Bool) (a : Act) (w : World), (∀ j oj, ops[j]? = some oj → j ≠ i → L.getD j true = false → (∀ e ∈ oj.after, Region.binds md e = true → e.on ≠ i) → oi.apart ops oj = true) →
      i ∈ Region.ready md ops L → YieldsIf P ops S oi v a → L.getD z true = false → S w → wpAnyY P md ops Q S z f (L.setIfInBounds i true) (a.put oi.dst v) w → wpAnyY P md ops Q S z (f + 1) L a w := by
  intro f
  induction f with
  | zero =>
    intro L a w _ hr hy hz hS H
    refine ⟨fun h => (by rw [h] at hr; cases hr), fun j hj => ?_⟩
    by_cases e : j = i
    · subst e; exact hy.wpOp hi hS ⟨fun _ _ => hS, H⟩
    · have := ready_mono hj e
      rw [H.1] at this; cases this
  | succ f ih =>
    intro L a w hfree hr hy hz hS H
    refine ⟨fun h => (by rw [h] at hr; cases hr), fun j hj => ?_⟩
    by_cases e : j = i
    · subst e; exact hy.wpOp hi hS ⟨fun _ _ => hS, H⟩
    · have h1 := H.2 j (ready_mono hj e)
      obtain ⟨hjun, oj, hoj, hall⟩ := mem_ready.1 hj
      have hnot := not_waits hr hall
      have hjz : j ≠ z := fun ez => by
        subst ez
        unfold waitsB at hw
        rw [hoj] at hw
        obtain ⟨x, hx, hxe⟩ := Array.any_eq_true'.1 hw
        simp only [Bool.and_eq_true, beq_iff_eq] at hxe
        exact hnot x hx hxe.1 hxe.2
      have hiz : i ≠ z := fun ez => by
        subst ez
        obtain ⟨x, hx, hxe⟩ : ∃ x, x ∈ oi.after ∧ (Region.binds md x = true ∧ x.on = i) := by
          unfold waitsB at hw
          rw [hi] at hw
          obtain ⟨x, hx, hxe⟩ := Array.any_eq_true'.1 hw
          simp only [Bool.and_eq_true, beq_iff_eq] at hxe
          exact ⟨x, hx, hxe⟩
        obtain ⟨-, oi', hoi', hall'⟩ := mem_ready.1 hr
        rw [hi] at hoi'; cases hoi'
        exact not_waits hr hall' x hx hxe.1 hxe.2
      have h2 := wpOp_putIf hoj (hfree j oj hoj e hjun hnot) (fun cs b => Region.noSelect_spec hsel i oi cs b hi) (fun cs b => Region.noSelect_spec hsel j oj cs b hoj) hQ hy h1
      refine wpOp_mono (fun a' w' h3 => ?_) h2
      have hzi : (L.setIfInBounds i true).getD z true = false := by rw [getD_set_ne true hiz]; exact hz
      have hS' := h3.2.1 hzi hjz
      refine ⟨fun _ _ => hS', ih _ a' w' (fun k ok hk hki hun hno => hfree k ok hk hki ?_ hno) (ready_mono hr (Ne.symm e)) h3.1 (by rw [getD_set_ne true hjz]; exact hz) hS' ?_⟩
      · by_cases hjk : j = k
        · subst hjk; exact hjun
        · rw [getD_set_ne true hjk] at hun; exact hun
      · rw [Array.setIfInBounds_comm _ _ e]
        exact h3.2.2
theorem wpAnyY_firstP {i : Nat} {oi : Oper} {v : Value} (hi : ops[i]? = some oi) (hsel : Region.noSelect ops = true) (hiz : i ≠ z) (hQ : ∀ c a w, Q (.panic c) (a.put oi.dst v) w → Q (.panic c) a w) :
    ∀ (f : Nat) (L : Array Bool) (a : Act) (w : World), (∀ j oj, ops[j]? = some oj → j ≠ i → L.getD j true = false → (∀ e ∈ oj.after, Region.binds md e = true → e.on ≠ i) → oi.apart ops oj = true) →
      i ∈ Region.ready md ops L → YieldsIf P ops (fun _ => True) oi v a → (L.getD z true = false → S w) → wpAnyY P md ops Q S z f (L.setIfInBounds i true) (a.put oi.dst v) w → wpAnyY P md ops Q S z (f + 1) L a w := by
  intro f
  induction f with
  | zero =>
    intro L a w _ hr hy hS H
    refine ⟨fun h => (by rw [h] at hr; cases hr), fun j hj => ?_⟩
    by_cases e : j = i
    · subst e; exact hy.wpOp hi trivial ⟨fun hz _ => hS hz, H⟩
    · have := ready_mono hj e
      rw [H.1] at this; cases this
  | succ f ih =>
    intro L a w hfree hr hy hS H
    refine ⟨fun h => (by rw [h] at hr; cases hr), fun j hj => ?_⟩
    by_cases e : j = i
    · subst e; exact hy.wpOp hi trivial ⟨fun hz _ => hS hz, H⟩
    · have h1 := H.2 j (ready_mono hj e)
      obtain ⟨hjun, oj, hoj, hall⟩ := mem_ready.1 hj
      have hnot := not_waits hr hall
      have h2 := wpOp_putIf hoj (hfree j oj hoj e hjun hnot) (fun cs b => Region.noSelect_spec hsel i oi cs b hi) (fun cs b => Region.noSelect_spec hsel j oj cs b hoj) hQ hy h1
      refine wpOp_mono (fun a' w' h3 => ?_) h2
      refine ⟨fun hz hjz => h3.2.1 (by rw [getD_set_ne true hiz]; exact hz) hjz, ih _ a' w' (fun k ok hk hki hun hno => hfree k ok hk hki ?_ hno) (ready_mono hr (Ne.symm e)) h3.1 (fun hz => ?_) ?_⟩
      · by_cases hjk : j = k
        · subst hjk; exact hjun
        · rw [getD_set_ne true hjk] at hun; exact hun
      · by_cases hjz : j = z
        · subst hjz
          rcases Nat.lt_or_ge j L.size with h' | h'
          · simp [h'] at hz
          · simp [Array.getElem?_eq_none h'] at hz
        · exact h3.2.1 (by rw [getD_set_ne true hiz]; rw [getD_set_ne true hjz] at hz; exact hz) hjz
      · rw [Array.setIfInBounds_comm _ _ e]
        exact h3.2.2
theorem wpAnyY_take {i : Nat} {oi : Oper} {v : Value} {f : Nat} {L : Array Bool} {a : Act} {w : World} (hi : ops[i]? = some oi) (hs : Region.noSelect ops = true) (hw : waitsB md ops z i = true) (hz : L.getD z true = false) (hf : Region.free md ops L i = true) (hr : (Region.ready md ops L).contains i = true)
    (hQ : ∀ c a w, Q (.panic c) (a.put oi.dst v) w → Q (.panic c) a w) (hy : YieldsIf P ops S oi v a) (hS : S w) (h : wpAnyY P md ops Q S z f (L.setIfInBounds i true) (a.put oi.dst v) w) : wpAnyY P md ops Q S z (f + 1) L a w :=
  wpAnyY_first hi hs hw hQ f L a w (Region.free_spec hi hf) (by simpa using hr) hy hz hS h
theorem wpAnyY_pure {i : Nat} {oi : Oper} {v : Value} {f : Nat} {L : Array Bool} {a : Act} {w : World} (hi : ops[i]? = some oi) (hs : Region.noSelect ops = true) (hiz : decide (i ≠ z) = true) (hf : Region.free md ops L i = true) (hr : (Region.ready md ops L).contains i = true)
    (hQ : ∀ c a w, Q (.panic c) (a.put oi.dst v) w → Q (.panic c) a w) (hy : YieldsIf P ops (fun _ => True) oi v a) (hS : S w) (h : wpAnyY P md ops Q S z f (L.setIfInBounds i true) (a.put oi.dst v) w) : wpAnyY P md ops Q S z (f + 1) L a w :=
  wpAnyY_firstP hi hs (of_decide_eq_true hiz) hQ f L a w (Region.free_spec hi hf) (by simpa using hr) hy (fun _ => hS) h
theorem wpAnyY_one {i : Nat} {o : Oper} {f : Nat} {L : Array Bool} {a : Act} {w : World} (hr : Region.ready md ops L = [i]) (ho : ops[i]? = some o)
    (h : ∀ K' : Act → World → Prop, (∀ a w, (i ≠ z → S w) → wpAnyY P md ops Q S z f (L.setIfInBounds i true) a w → K' a w) → if Region.wanted o (yielded ops a.tmps) = true then o.wp P a w K' Q else K' (a.put o.dst undef) w) : wpAnyY P md ops Q S z (f + 1) L a w := by
  refine ⟨fun h0 => (by rw [h0] at hr; cases hr), fun j hj => ?_⟩
  rw [hr, List.mem_singleton] at hj
  subst hj
  have h1 := h (fun a' w' => (L.getD z true = false → j ≠ z → S w') ∧ wpAnyY P md ops Q S z f (L.setIfInBounds j true) a' w') (fun _ _ h1 h2 => ⟨fun _ => h1, h2⟩)
  unfold wpOp
  rw [ho]
  dsimp only
  split
  · rename_i hw; rw [if_pos hw] at h1; exact .inl h1
  · rename_i hw; rw [if_neg hw] at h1; exact h1
theorem wpAnyY_done {L : Array Bool} {a : Act} {w : World} (hr : Region.ready md ops L = []) (h : Q .normal a w) : ∀ f, wpAnyY P md ops Q S z f L a w
  | 0 => ⟨hr, h⟩
  | _ + 1 => ⟨fun _ => h, by rw [hr]; simp⟩
theorem wp_region_Y {id : Nat} {a : Act} {w : World} (hm : P.follows .mixedOrders = true) (S : World → Prop) (z : Nat)
    (h : wpAnyY P .any ops Q S z ops.size (Array.replicate ops.size false) a w.drew) : (Code.region id ops true).wp P Q a w := wp_region_any hm (wpAny_of_Y _ _ _ _ h)
end
end Go.Proofs.YtelgjaiknaalkaaGreatDoor
