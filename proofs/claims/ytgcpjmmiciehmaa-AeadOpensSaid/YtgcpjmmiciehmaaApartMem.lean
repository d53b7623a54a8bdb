/- PLAIN LEMMAS for burrownum.Apart: lists that are marked, grown and looked at. No program, no conditions. -/
import Derived.Test.YtgcpjmmiciehmaaMem
namespace Go.Proofs.Ytgcpjmmiciehmaa
open Go.RowKit

/-- the mark of place j in list k -/
def pat (k j : Nat) : BitVec 8 := BitVec.ofInt 8 (29 * (k : Int) + 5 * (j : Int) + 3)
def patL (k n : Nat) : List (BitVec 8) := (List.range n).map (pat k)
theorem patL_len (k n : Nat) : (patL k n).length = n := by simp [patL]
theorem patL_at (k n j : Nat) (h : j < n) : (patL k n)[j]'(by rw [patL_len]; exact h) = pat k j := by simp [patL]
theorem patL_succ (k n : Nat) : patL k (n + 1) = patL k n ++ [pat k n] := by simp [patL, List.range_succ]
theorem patL_take (k n m : Nat) (h : n ≤ m) : (patL k m).take n = patL k n := by
  unfold patL
  rw [← List.map_take, List.take_range, Nat.min_eq_left h]
theorem pat_eq (k j : Nat) : (29 * (k : Int) + 5 * (j : Int) + 3) % 256 = bv (pat k j) := by
  have := ofint_u8 (29 * (k : Int) + 5 * (j : Int) + 3)
  rw [wrap_u8v] at this
  exact this
/-- the first J places are marked -/
def patTo (K J : Nat) (xs : List (BitVec 8)) : List (BitVec 8) := (List.range xs.length).map fun t => if t < J then pat K t else xs.getD t 0#8
theorem patTo_len (K J : Nat) (xs : List (BitVec 8)) : (patTo K J xs).length = xs.length := by simp [patTo]
theorem patTo_zero (K : Nat) (xs : List (BitVec 8)) : patTo K 0 xs = xs := by
  apply List.ext_getElem
  · simp [patTo]
  · intro i h1 h2
    simp [patTo, h2]
theorem patTo_set (K J : Nat) (xs : List (BitVec 8)) : (patTo K J xs).set J (pat K J) = patTo K (J + 1) xs := by
  apply List.ext_getElem
  · simp [patTo]
  · intro i h1 h2
    simp only [patTo, List.getElem_set, List.getElem_map, List.getElem_range]
    by_cases h : J = i
    · subst h; simp
    · rw [if_neg h]
      by_cases h' : i < J
      · rw [if_pos h', if_pos (by omega)]
      · rw [if_neg h', if_neg (by omega)]
theorem patTo_all (K : Nat) (xs : List (BitVec 8)) : patTo K xs.length xs = patL K xs.length := by
  apply List.map_congr_left
  intro t ht
  rw [if_pos (List.mem_range.1 ht)]

section
variable (B E : Nat) (vs : List Sl) (ns : Nat → Nat)
/-- no two lists lie in one row -/
def Lone : Prop := ∀ (i j : Nat) (x y : Sl), vs[i]? = some x → vs[j]? = some y → i ≠ j → ∀ g : Nat, (sl x).ownBlock = some g → (sl y).ownBlock ≠ some g
/-- the lists, the first K of them marked -/
def Marked (w : World) (K : Nat) : Prop := ∀ (i : Nat) (x : Sl), vs[i]? = some x → ∃ xs, Own b8 w B E (sl x) xs ∧ xs.length = ns i ∧ (i < K → xs = patL i (ns i))
/-- the lists, all marked; the first K of them grown: gs -/
structure Grown3 (w : World) (K : Nat) (gs : List Sl) : Prop where
  own : ∀ (i : Nat) (x : Sl), vs[i]? = some x → Own b8 w B E (sl x) (patL i (ns i))
  grown : ∀ (i : Nat) (x : Sl), gs[i]? = some x → Own b8 w B E (sl x) (patL i (ns i + 10))
  apart : ∀ (i : Nat) (x : Sl), gs[i]? = some x → ∀ b : Nat, (sl x).ownBlock = some b → (∀ (j : Nat) (y : Sl), vs[j]? = some y → K ≤ j → (sl y).ownBlock ≠ some b) ∧ ∀ (j : Nat) (y : Sl), gs[j]? = some y → j ≠ i → (sl y).ownBlock ≠ some b
/-- list K is under way: x as it came, y as it has grown, m its places -/
structure Growing (w : World) (K : Nat) (gs : List Sl) (y : Sl) (m : Nat) : Prop where
  own : ∀ (i : Nat) (x : Sl), vs[i]? = some x → Own b8 w B E (sl x) (patL i (ns i))
  grown : ∀ (i : Nat) (x : Sl), gs[i]? = some x → Own b8 w B E (sl x) (patL i (ns i + 10))
  apart : ∀ (i : Nat) (x : Sl), gs[i]? = some x → ∀ b : Nat, (sl x).ownBlock = some b → (∀ (j : Nat) (y : Sl), vs[j]? = some y → K ≤ j → (sl y).ownBlock ≠ some b) ∧ ∀ (j : Nat) (y : Sl), gs[j]? = some y → j ≠ i → (sl y).ownBlock ≠ some b
  now : Own b8 w B E (sl y) (patL K m)
  lone : ∀ b : Nat, (sl y).ownBlock = some b → (∀ (j : Nat) (x : Sl), vs[j]? = some x → j ≠ K → (sl x).ownBlock ≠ some b) ∧ ∀ (j : Nat) (x : Sl), gs[j]? = some x → (sl x).ownBlock ≠ some b
  came : ∀ x : Sl, vs[K]? = some x → (y.1 = x.1 ∧ y.2.2 = x.2.2) ∨ ∀ b : Nat, (sl y).ownBlock = some b → (sl x).ownBlock ≠ some b
end
section
variable {B E : Nat} {vs : List Sl} {ns : Nat → Nat}
theorem Marked.step {w w' : World} {K : Nat} {x : Sl} (h : Marked B E vs ns w K) (hl : Lone vs) (hx : vs[K]? = some x) (hg : w.grownBy w' (sl x).ownBlock) (ho : Own b8 w' B E (sl x) (patL K (ns K))) : Marked B E vs ns w' (K + 1) := by
  intro i y hy
  by_cases hi : i = K
  · subst hi
    rw [hx] at hy
    cases hy
    exact ⟨_, ho, patL_len _ _, fun _ => rfl⟩
  · obtain ⟨xs, h1, h2, h3⟩ := h i y hy
    exact ⟨xs, h1.kept' hg (fun g hgx => hl K i x y hx hy (fun e => hi e.symm) g hgx), h2, fun hlt => h3 (by omega)⟩
theorem Marked.start {w : World} (h : Marked B E vs ns w vs.length) : Grown3 B E vs ns w 0 [] := by
  refine ⟨fun i x hx => ?_, fun i x hx => by simp at hx, fun i x hx => by simp at hx⟩
  obtain ⟨xs, h1, h2, h3⟩ := h i x hx
  have hi : i < vs.length := (List.getElem?_eq_some_iff.1 hx).1
  rw [← h3 hi]; exact h1
/-- what turns rows of another element type, or new ones, leaves the lists alone -/
theorem Grown3.kept {w w' : World} {K : Nat} {gs : List Sl} {row : Option Nat} (h : Grown3 B E vs ns w K gs) (hg : w.grownBy w' row) (hne : ∀ x xs, Own b8 w B E (sl x) xs → ∀ g, row = some g → (sl x).ownBlock ≠ some g) : Grown3 B E vs ns w' K gs :=
  ⟨fun i x hx => (h.own i x hx).kept' hg (hne _ _ (h.own i x hx)), fun i x hx => (h.grown i x hx).kept' hg (hne _ _ (h.grown i x hx)), h.apart⟩
theorem Grown3.drewN {w : World} {K : Nat} {gs : List Sl} (h : Grown3 B E vs ns w K gs) (q : Nat) : Grown3 B E vs ns (w.drewN q) K gs :=
  ⟨fun i x hx => h.own i x hx, fun i x hx => h.grown i x hx, h.apart⟩
theorem Grown3.begin_ {w : World} {K : Nat} {gs : List Sl} {x : Sl} (h : Grown3 B E vs ns w K gs) (hl : Lone vs) (hx : vs[K]? = some x) : Growing B E vs ns w K gs x (ns K) :=
  ⟨h.own, h.grown, h.apart, h.own K x hx, fun b hb => ⟨fun j y hy hj => hl K j x y hx hy (fun e => hj e.symm) b hb, fun j y hy hb2 => ((h.apart j y hy b hb2).1 K x hx (Nat.le_refl _)) hb⟩, fun y hy => by rw [hx] at hy; cases hy; exact .inl ⟨rfl, rfl⟩⟩
theorem Growing.step {w w' : World} {K : Nat} {gs : List Sl} {y y' : Sl} {m : Nat} (h : Growing B E vs ns w K gs y m) (hm : ns K ≤ m) (ho : Own b8 w' B E (sl y') (patL K (m + 1))) (hg : Grew w w' (sl y) (sl y')) : Growing B E vs ns w' K gs y' (m + 1) := by
  rcases hg with ⟨e, rfl⟩ | ⟨g, n, n', c, e1, e2, hgr⟩ | ⟨hnew, hgr⟩
  · exact absurd (ho.len.symm.trans ((congrArg (fun v => match v with | .slice _ n _ => n | _ => 0) e).trans h.now.len)) (by rw [patL_len, patL_len]; omega)
  · -- in place
    have hy : y = (some ⟨g, 0, none⟩, n, c) := by
      obtain ⟨A, n1, c1⟩ := y
      simp only [sl, Value.slice.injEq] at e1
      obtain ⟨rfl, rfl, rfl⟩ := e1
      rfl
    have hy' : y' = (some ⟨g, 0, none⟩, n', c) := by
      obtain ⟨A, n1, c1⟩ := y'
      simp only [sl, Value.slice.injEq] at e2
      obtain ⟨rfl, rfl, rfl⟩ := e2
      rfl
    subst hy; subst hy'
    have hb : (sl (some ⟨g, 0, none⟩, n, c)).ownBlock = some g := rfl
    have hn' : n' = m + 1 := by have := ho.len; rw [patL_len] at this; exact this
    refine ⟨fun i x hx => ?_, fun i x hx => (h.grown i x hx).kept' hgr (fun g' e => by cases e; exact (h.lone g hb).2 i x hx), h.apart, ho, h.lone, h.came⟩
    by_cases hi : i = K
    · subst hi
      rcases h.came x hx with ⟨h1, h2⟩ | h1
      · obtain ⟨A, n1, c1⟩ := x
        simp only at h1 h2
        subst h1; subst h2
        have hn1 : n1 = ns i := by have := (h.own i _ hx).len; rw [patL_len] at this; exact this
        subst hn1
        have := ho.short (ns i) (by simp only; omega)
        rw [patL_take _ _ _ (by omega)] at this
        exact this
      · exact (h.own i x hx).kept' hgr (fun g' e => by cases e; exact h1 g hb)
    · exact (h.own i x hx).kept' hgr (fun g' e => by cases e; exact (h.lone g hb).1 i x hx hi)
  · refine ⟨fun i x hx => (h.own i x hx).kept' hgr (fun g e => by cases e), fun i x hx => (h.grown i x hx).kept' hgr (fun g e => by cases e), h.apart, ho, fun b hb => ?_, fun x hx => .inr (fun b hb => ?_)⟩
    · rw [hnew] at hb
      cases hb
      exact ⟨fun j x hx _ => (h.own j x hx).notBlock (Nat.le_refl _), fun j x hx => (h.grown j x hx).notBlock (Nat.le_refl _)⟩
    · rw [hnew] at hb
      cases hb
      exact (h.own K x hx).notBlock (Nat.le_refl _)
theorem Growing.kept {w w' : World} {K : Nat} {gs : List Sl} {y : Sl} {m : Nat} {row : Option Nat} (h : Growing B E vs ns w K gs y m) (hg : w.grownBy w' row) (hne : ∀ x xs, Own b8 w B E (sl x) xs → ∀ g, row = some g → (sl x).ownBlock ≠ some g) : Growing B E vs ns w' K gs y m :=
  ⟨fun i x hx => (h.own i x hx).kept' hg (hne _ _ (h.own i x hx)), fun i x hx => (h.grown i x hx).kept' hg (hne _ _ (h.grown i x hx)), h.apart, h.now.kept' hg (hne _ _ h.now), h.lone, h.came⟩
theorem Growing.end_ {w : World} {K : Nat} {gs : List Sl} {y : Sl} (h : Growing B E vs ns w K gs y (ns K + 10)) (hK : gs.length = K) : Grown3 B E vs ns w (K + 1) (gs ++ [y]) := by
  refine ⟨h.own, fun i x hx => ?_, fun i x hx b hb => ?_⟩
  · rw [List.getElem?_append] at hx
    split at hx
    · exact h.grown i x hx
    · rename_i hi
      have : i - gs.length = 0 := by
        rcases Nat.eq_zero_or_pos (i - gs.length) with h0 | h0
        · exact h0
        · rw [List.getElem?_eq_none (by simp; omega)] at hx; cases hx
      rw [this] at hx
      cases hx
      obtain rfl : i = K := by omega
      exact h.now
  · rw [List.getElem?_append] at hx
    split at hx
    · rename_i hi
      refine ⟨fun j z hz hj => (h.apart i x hx b hb).1 j z hz (by omega), fun j z hz hj => ?_⟩
      rw [List.getElem?_append] at hz
      split at hz
      · exact (h.apart i x hx b hb).2 j z hz hj
      · have : j - gs.length = 0 := by
          rcases Nat.eq_zero_or_pos (j - gs.length) with h0 | h0
          · exact h0
          · rw [List.getElem?_eq_none (by simp; omega)] at hz; cases hz
        rw [this] at hz
        cases hz
        exact fun e => (h.lone b e).2 i x hx hb
    · rename_i hi
      have : i - gs.length = 0 := by
        rcases Nat.eq_zero_or_pos (i - gs.length) with h0 | h0
        · exact h0
        · rw [List.getElem?_eq_none (by simp; omega)] at hx; cases hx
      rw [this] at hx
      cases hx
      refine ⟨fun j z hz hj => (h.lone b hb).1 j z hz (by omega), fun j z hz hj => ?_⟩
      rw [List.getElem?_append] at hz
      split at hz
      · exact (h.lone b hb).2 j z hz
      · rename_i hj2
        have : j - gs.length = 0 := by
          rcases Nat.eq_zero_or_pos (j - gs.length) with h0 | h0
          · exact h0
          · rw [List.getElem?_eq_none (by simp; omega)] at hz; cases hz
        omega
end
end Go.Proofs.Ytgcpjmmiciehmaa
