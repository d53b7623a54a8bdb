/- CONTRACTS: slices.Clone, the eye of package wire: take, number, sum, row. -/
import Derived.Test.YtloglpamnalmeaaRefN
namespace Go.Proofs.Ytloglpamnalmeaa
open Go.RowKit
set_option linter.unusedVariables false
set_option linter.unusedSimpArgs false

theorem sliced_zero (a : Option Addr) (h m s : Nat) : sliced a 0 h m s = .slice a h m := by
  unfold sliced
  rw [Nat.zero_mul, Nat.sub_zero, Nat.sub_zero]
  cases a <;> simp [Addr.add]
def cutA (a : Option Addr) (l m : Nat) : Option Addr := if m = l then a else a.map (·.add l)
theorem Rd.cut {α : Type} {f : α → Value} {w : World} {B : Nat} {A : Option Addr} {xs : List α} (h : Rd f w B A xs) {d : Nat} (hd : xs.length ≤ d) (k : Nat) : Rd f w B (cutA A k d) (xs.drop k) := by
  unfold cutA
  split
  · rw [List.drop_eq_nil_of_le (by omega)]; exact Rd.nil_ _ _ _ _
  · exact h.drop k
attribute [local go_sem high] sliced_zero

theorem run_eql_slice_nil {P : Program} (w : World) (t e : TypeId) (a : Option Addr) (l c : Nat) (h : P.underlying t = some (.slice e)) : (binOp .eql t (.slice a l c) (.slice none 0 0)).run P w = .ok (.bool a.isNone) w := by
  show ((do return .bool (← Op.equal t (.slice a l c) (.slice none 0 0)) : Sem Value)).run P w = _
  simp only [Sem.run_bind, run_equal_slice_nil (h := h), Result.andThen_ok]
  rfl
set_option maxRecDepth 100000 in
theorem clone_any {w : World} {B' : Nat} {A : Option Addr} {n c : Nat} {ys : List (BitVec 8)} (hr : Rd b8 w B' A ys) (hB' : B' ≤ w.heap.size) (hn : ys.length = n) (hy : n ≤ 100000000) :
    Calls Try.prog 115 #[.slice A n c] w fun e w' => ∃ v, e = .returned v ∧ Own b8 w' w.heap.size 5 v ys ∧ Below w.heap.size w w' := by
  obtain ⟨i0, hi0, hz0, hz1, hz2⟩ := info_parts infoU8
  have HR := Lib.hid hr
  have HN := Lib.hid hn
  have heq := fun (A : Option Addr) w => run_eql_slice_nil (P := Try.prog) w 24 5 A n c Try.underlying24
  cases A with
  | none =>
    replace heq := heq none
    have hy0 : ys = [] := by
      by_cases h : ys = []
      · exact h
      · obtain ⟨b, off, e, -⟩ := hr (List.length_pos_iff.2 h)
        cases e
    have Hy0 := Lib.hid hy0
    clear hr hn hy0
    go_enter Try.func115, Try.ntmps115
    go_wp2
    go_ret
    exact ⟨_, rfl, (Own.nil_ _ _ _ _).cast Hy0.out.symm, Below.refl _ _⟩
  | some a =>
    replace heq := heq (some a)
    have hlit := Own.lit b8 w w.heap.size 5 [] (Nat.le_refl _) (by simp)
    have HLit := Lib.hid hlit
    clear hr hn hlit
    go_enter Try.func115, Try.ntmps115
    go_wp2_with (at_builtin; refine wpList_append_rd rfl (.tmp 5) (.tmp 6) 24 rfl b8_one w.heap.size 5 i0 _ 1 Try.underlying24 hi0 hz0 hz1 hz2 rfl _ _ rfl HLit.out B' (some a) n c ys rfl HN.out.symm (HR.out.alloc hB' _) (by have := HN.out; simp [maxLen]; omega) (by have := HN.out; simp; omega) (by simp) ?_; intro v7 w7 hown7 hg7 hbb7; have HO7 := Lib.hid hown7; have HB7 := Lib.hid (hbb7 _ _ (Nat.le_refl _) ((Below.refl _ w).alloc (Nat.le_refl _) _)); clear hown7 hg7 hbb7)
    go_ret
    exact ⟨_, rfl, HO7.out, HB7.out⟩

theorem own_zeros {w : World} {B N : Nat} {v : Value} (h : w.ownsRow B 5 1 v N (madeCells (Value.int .u8 0).cells (N * 1)).toList) : Own b8 w B 5 v (List.replicate N 0#8) := by
  unfold Own
  rw [List.length_replicate, List.map_replicate]
  have e : (madeCells (Value.int .u8 0).cells (N * 1)).toList = List.replicate N (b8 0#8) := by rw [Nat.mul_one]; exact toList_madeCells_one _ _
  rw [← e]
  exact h
/-- what is taken from bytes, what is left, and whether something was missing -/
def tkO (N : Nat) (ys : List (BitVec 8)) : List (BitVec 8) := if ys.length < N then List.replicate N 0#8 else ys.take N
def tkR (N : Nat) (ys : List (BitVec 8)) : List (BitVec 8) := if ys.length < N then ys else ys.drop N
def tkB (N : Nat) (ys : List (BitVec 8)) (bad : Bool) : Bool := if ys.length < N then true else bad
theorem tkO_len (N : Nat) (ys : List (BitVec 8)) : (tkO N ys).length = N := by
  unfold tkO; split
  · simp
  · rw [List.length_take]; omega
theorem tkR_le (N : Nat) (ys : List (BitVec 8)) : (tkR N ys).length ≤ ys.length := by
  unfold tkR; split
  · exact Nat.le_refl _
  · rw [List.length_drop]; omega
/-- an eye at g that has ys still to read -/
structure Eye (w : World) (B g : Nat) (ys : List (BitVec 8)) (bad : Bool) : Prop where
  at_ : ∃ A c, Blk w g 121 [.slice A ys.length c, .bool bad] ∧ Rd b8 w B A ys ∧ ys.length ≤ c
  le : B ≤ g
theorem Eye.lt {w : World} {B g : Nat} {ys : List (BitVec 8)} {bad : Bool} (h : Eye w B g ys bad) : g < w.heap.size := by obtain ⟨⟨A, c, h1, h2⟩, h3⟩ := h; exact h1.lt
theorem Eye.size {w : World} {B g : Nat} {ys : List (BitVec 8)} {bad : Bool} (h : Eye w B g ys bad) : B ≤ w.heap.size := by have := h.lt; have := h.le; omega
theorem Eye.below {w w' : World} {B g C : Nat} {ys : List (BitVec 8)} {bad : Bool} (h : Eye w B g ys bad) (hb : Below C w w') (hC : w.heap.size ≤ C) : Eye w' B g ys bad := by
  have hz := h.size
  have hl := h.lt
  obtain ⟨⟨A, c, h1, h2, h3⟩, h4⟩ := h
  exact ⟨⟨A, c, h1.below hb (by omega), h2.below (hb.mono (by omega)), h3⟩, h4⟩

theorem grown_none' {w w' : World} (hb : Below w.heap.size w w') : w.grownBy w' none := ⟨hb.os, hb.tape, hb.output, hb.size, fun k hk _ => hb.block k hk⟩
theorem below_grown {w w' : World} {B g : Nat} (h : w.grownBy w' (some g)) (hle : B ≤ g) (hB : B ≤ w.heap.size) : Below B w w' := (Below.refl B w).grown h hB (fun k e => by cases e; exact hle)
set_option maxRecDepth 100000 in
set_option maxHeartbeats 1000000 in
theorem take_any {w : World} {B g : Nat} {ys : List (BitVec 8)} {bad : Bool} (hE : Eye w B g ys bad) (N : Nat) (hy : ys.length ≤ 100000000) (hN : N ≤ 100000000) :
    Calls Try.prog 99 #[.pointer (some ⟨g, 0, none⟩), .int .i64 (N : Int)] w fun e w' => ∃ v, e = .returned v ∧ Own b8 w' w.heap.size 5 v (tkO N ys) ∧ Eye w' B g (tkR N ys) (tkB N ys bad) ∧ w.grownBy w' (some g) := by
  obtain ⟨i0, hi0, hz0, hz1, hz2⟩ := info_parts infoU8
  have hsz := hE.size
  have hgl := hE.lt
  have hle := hE.le
  obtain ⟨⟨A, c, h1, hr, hc⟩, -⟩ := hE
  have H1 := Lib.hid h1
  have HR := Lib.hid hr
  have c0 := h1.cell 0 rfl
  have c1 := h1.cell 1 rfl
  have f0 := h1.frozen 0
  have f1 := h1.frozen 1
  clear h1 hr
  obtain ⟨l, hl⟩ : ∃ l, l = ys.length := ⟨_, rfl⟩
  rw [← hl] at c0 hc hy
  have Hl := Lib.hid hl
  by_cases hlt : ys.length < N
  · have e1 : tkO N ys = List.replicate N 0#8 := if_pos hlt
    have e2 : tkR N ys = ys := if_pos hlt
    have e3 : tkB N ys bad = true := if_pos hlt
    rw [e1, e2, e3]
    have hlt' : (l : Int) < (N : Int) := by omega
    clear e1 e2 e3 hlt hl
    go_enter Try.func99, Try.ntmps99
    go_wp2_with (refine wpList_make_full _ rfl (.tmp 16) (.tmp 16) 24 rfl w.heap.size 5 i0 _ 1 Try.underlying24 hi0 hz0 hz1 .i64 .i64 (N : Int) (N : Int) N rfl rfl rfl rfl (by rw [hz2]; omega) (by simp [maxLen]; omega) (by simp) ?_; intro w3 hown3 hg3; have HO3 := Lib.hid (show Own b8 w3 w.heap.size 5 _ (List.replicate N 0#8) from own_zeros hown3); have HG3 := Lib.hid hg3; clear hown3 hg3)
    go_ret
    have hb : Below g (w.setCell ⟨g, 1, none⟩ (.bool true)) w3 := (Below.refl _ _).grown HG3.out (by simp; omega) (fun k e => by cases e)
    have hbB : Below B w w3 := ((Below.refl B w).setCell (p := ⟨g, 1, none⟩) hle _).trans (hb.mono hle)
    refine ⟨_, rfl, (by have := HO3.out; rw [World.size_setCell] at this; exact this), ⟨⟨A, c, ?_, (HR.out.below hbB), by rw [← Hl.out]; exact hc⟩, hle⟩, grownBy_trans (grownBy_set w g 1 _) HG3.out (fun _ e => by cases e)⟩
    exact (H1.out.set_ 1 (.bool true)).grown HG3.out (by simp)
  · have e1 : tkO N ys = ys.take N := if_neg hlt
    have e2 : tkR N ys = ys.drop N := if_neg hlt
    have e3 : tkB N ys bad = bad := if_neg hlt
    rw [e1, e2, e3]
    have hlt' : ((l : Int) < (N : Int)) = False := by simp; omega
    have hNl : N ≤ l := by omega
    have hNl' : (N : Int) ≤ (l : Int) := by omega
    have hNc : N ≤ c := by omega
    have hNc' : (N : Int) ≤ (c : Int) := by omega
    have hN0 : (0 : Int) ≤ (N : Int) := by omega
    clear e1 e2 e3 hlt hl
    by_cases hcN : c = N
    · obtain rfl : N = c := hcN.symm
      obtain rfl : N = l := by omega
      go_enter Try.func99, Try.ntmps99
      go_wp2_with fail
      refine (clone_any (HR.out.take N) hsz (by rw [List.length_take, ← Hl.out]; omega) (by omega)).mono ?_
      rintro e w1 ⟨v1, rfl, ho1, hb1⟩
      have hz1 : w.heap.size ≤ w1.heap.size := hb1.size
      have h11 := H1.out.below hb1 hgl
      have H11 := Lib.hid h11
      have HR1 := Lib.hid (HR.out.below (hb1.mono hsz))
      have HO1 := Lib.hid ho1
      have c0 := h11.cell 0 (by rw [← Hl.out]; rfl)
      have f0 := h11.frozen 0
      have HB1 := Lib.hid hb1
      clear h11 ho1 hb1 c1 f1
      go_wp2_with fail
      go_ret
      have hst := H11.out.set_ 0 (.slice A 0 0)
      have hne : v1.ownBlock ≠ some g := fun e => by have := (HO1.out.lt g e).1; omega
      refine ⟨_, rfl, HO1.out.kept (grownBy_set w1 g 0 _) (.inr hne), ⟨⟨A, 0, ?_, ?_, by rw [List.length_drop, ← Hl.out]; omega⟩, hle⟩, grownBy_trans (grownBy_any (grown_none' HB1.out) (some g)) (grownBy_set w1 g 0 _) (fun _ e => .inl e)⟩
      · rw [List.length_drop, ← Hl.out]; first | exact hst | (rw [Nat.sub_self]; exact hst)
      · have := (HR1.out.cut (d := N) (by rw [← Hl.out]; exact hc) N).keep (w' := w1.setCell ⟨g, 0, none⟩ (.slice A 0 0)) (fun p hp => World.cell?_setCell_other _ _ _ _ (fun e => by subst e; simp at hp; omega))
        unfold cutA at this
        simpa [hcN] using this
    · skip
      go_enter Try.func99, Try.ntmps99
      go_wp2_with fail
      refine (clone_any (HR.out.take N) hsz (by rw [List.length_take, ← Hl.out]; omega) (by omega)).mono ?_
      rintro e w1 ⟨v1, rfl, ho1, hb1⟩
      have hz1 : w.heap.size ≤ w1.heap.size := hb1.size
      have h11 := H1.out.below hb1 hgl
      have H11 := Lib.hid h11
      have HR1 := Lib.hid (HR.out.below (hb1.mono hsz))
      have HO1 := Lib.hid ho1
      have c0 := h11.cell 0 (by rw [← Hl.out]; rfl)
      have f0 := h11.frozen 0
      have HB1 := Lib.hid hb1
      clear h11 ho1 hb1 c1 f1
      go_wp2_with fail
      go_ret
      have hst := H11.out.set_ 0 (.slice (A.map (·.add N)) (l - N) (c - N))
      have hne : v1.ownBlock ≠ some g := fun e => by have := (HO1.out.lt g e).1; omega
      refine ⟨_, rfl, HO1.out.kept (grownBy_set w1 g 0 _) (.inr hne), ⟨⟨(A.map (·.add N)), (c - N), ?_, ?_, by rw [List.length_drop, ← Hl.out]; omega⟩, hle⟩, grownBy_trans (grownBy_any (grown_none' HB1.out) (some g)) (grownBy_set w1 g 0 _) (fun _ e => .inl e)⟩
      · rw [List.length_drop, ← Hl.out]; first | exact hst | (rw [Nat.sub_self]; exact hst)
      · have := (HR1.out.cut (d := c) (by rw [← Hl.out]; exact hc) N).keep (w' := w1.setCell ⟨g, 0, none⟩ (.slice (A.map (·.add N)) (l - N) (c - N))) (fun p hp => World.cell?_setCell_other _ _ _ _ (fun e => by subst e; simp at hp; omega))
        unfold cutA at this
        simpa [hcN] using this
end Go.Proofs.Ytloglpamnalmeaa
