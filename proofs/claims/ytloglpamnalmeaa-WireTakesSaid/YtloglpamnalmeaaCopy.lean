/- CONTRACTS: burrownum.Copy, burrownum.Kept: a copy with two marks in its spare room. -/
import Derived.Test.YtloglpamnalmeaaBase
import Derived.OwnWalk
namespace Go.Proofs.Ytloglpamnalmeaa
open Go.RowKit
set_option linter.unusedVariables false

/-- a copy: it owns the bytes and two marks behind them -/
def Cpy (w : World) (B : Nat) (v : Value) (xs : List (BitVec 8)) : Prop := ∃ g c, v = .slice (some ⟨g, 0, none⟩) xs.length c ∧ Own b8 w B 5 (.slice (some ⟨g, 0, none⟩) (xs.length + 2) c) (xs ++ [165#8, 90#8])
section
variable {w w' : World} {B : Nat} {v : Value} {xs : List (BitVec 8)}
theorem Cpy.own (h : Cpy w B v xs) : Own b8 w B 5 v xs := by
  obtain ⟨g, c, rfl, h⟩ := h
  exact (h.short xs.length (by omega)).cast (by simp)
theorem Cpy.kept (h : Cpy w B v xs) {row : Option Nat} (hg : w.grownBy w' row) (hne : v.ownBlock = none ∨ v.ownBlock ≠ row) : Cpy w' B v xs := by
  obtain ⟨g, c, rfl, h⟩ := h
  exact ⟨g, c, rfl, h.kept hg hne⟩
theorem Cpy.below (h : Cpy w B v xs) {C : Nat} (hb : Below C w w') (hC : w.heap.size ≤ C) : Cpy w' B v xs := by
  obtain ⟨g, c, rfl, h⟩ := h
  exact ⟨g, c, rfl, h.below hb hC⟩
theorem Cpy.less (h : Cpy w B v xs) {B' : Nat} (hB : B' ≤ B) : Cpy w B' v xs := by
  obtain ⟨g, c, rfl, h⟩ := h
  exact ⟨g, c, rfl, h.less hB⟩
theorem Cpy.drewN (h : Cpy w B v xs) (k : Nat) : Cpy (w.drewN k) B v xs := h
theorem Cpy.alloc (h : Cpy w B v xs) (o : Obj) : Cpy (w.alloc o) B v xs := by
  obtain ⟨g, c, rfl, h⟩ := h
  exact ⟨g, c, rfl, h.alloc o⟩
theorem Cpy.cast {ys : List (BitVec 8)} (h : Cpy w B v xs) (e : xs = ys) : Cpy w B v ys := e ▸ h
theorem Cpy.shape' {n : Nat} (h : Cpy w B v xs) (hn : xs.length = n) : ∃ g c, v = .slice (some ⟨g, 0, none⟩) n c ∧ B ≤ g ∧ g < w.heap.size ∧ n + 2 ≤ c ∧ c ≤ maxLen := by
  obtain ⟨g, c, rfl, h⟩ := h
  subst hn
  obtain ⟨g', cap, e, hb, hlt, hle⟩ := h.form (by simp)
  obtain ⟨A, c', e2, -, -, hle2, hm⟩ := h.shape
  simp only [Value.slice.injEq, Option.some.injEq, Addr.mk.injEq, and_true] at e e2
  obtain ⟨rfl, -, rfl⟩ := e
  obtain ⟨-, -, rfl⟩ := e2
  simp at hle
  exact ⟨g, c, rfl, hb, hlt, hle, hm⟩
end

set_option maxRecDepth 100000 in
theorem copy_any {w : World} {B : Nat} {A : Option Addr} {xs : List (BitVec 8)} {n : Nat} (c : Nat) (hr : Rd b8 w B A xs) (hB : B ≤ w.heap.size) (hn : xs.length = n) (hbig : n ≤ 140737488351232) :
    Calls Try.prog 40 #[.slice A n c] w fun e w' => ∃ v, e = .returned v ∧ Cpy w' w.heap.size v xs ∧ Below w.heap.size w w' := by
  obtain ⟨i0, hi0, hz0, hz1, hz2⟩ := info_parts infoU8
  have HN := Lib.hid hn
  have HR := Lib.hid hr
  clear hn hr
  go_enter Try.func40, Try.ntmps40
  go_wp2_with (first
    | (refine wpList_make_own _ rfl (.const (.int .i64 0)) (.tmp 5) 24 rfl w.heap.size 5 i0 _ 1 Try.underlying24 hi0 hz0 hz1 .i64 .i64 ((n : Int) + 2) (n + 2) rfl rfl (by omega) (by rw [hz2]; omega) (by simp [maxLen]; omega) (by simp) ?_; intro w1 hown1 hg1; have HO1 := Lib.hid (show Own b8 w1 w.heap.size 5 _ [] from hown1); have HG1 := Lib.hid hg1; have hs1 := hg1.size; clear hown1 hg1)
    | (at_builtin; refine wpList_append_rd rfl (.tmp 6) (.tmp 7) 24 rfl b8_one w.heap.size 5 i0 _ 1 Try.underlying24 hi0 hz0 hz1 hz2 rfl _ _ rfl HO1.out B A n c xs rfl HN.out.symm (HR.out.below (((Below.refl _ w).grown HG1.out (Nat.le_refl _) (fun k e => by cases e)).mono hB)) (by simp [maxLen]; have := HN.out; omega) (by have := HN.out; simp; omega) (by have := HG1.out.size; omega) ?_; intro v2 w2 hown2 hg2 hb2; have HO2 := Lib.hid hown2; have hs2 := hg2.size; have HB2 := Lib.hid hb2; clear hown2 hg2 hb2)
    | (at_builtin; refine wpList_append_rd rfl (.tmp 8) (.tmp 9) 24 rfl b8_one w.heap.size 5 i0 _ 1 Try.underlying24 hi0 hz0 hz1 hz2 rfl _ _ rfl (HO2.out.alloc _) (w2.heap.size + 1) _ 2 2 [165#8, 90#8] rfl rfl (Rd.new b8 w2 5 [165#8, 90#8]) (by simp [maxLen]; have := HN.out; omega) (by have := HN.out; simp; omega) (by have := HG1.out.size; simp; omega) ?_; intro v3 w3 hown3 hg3 hb3; obtain ⟨Av3, cv3, rfl, -, hz3, hle3, -⟩ := hown3.shape' (n := n + 2) (by simp [HN.out]); have hn3 : n ≤ cv3 := (by omega); have HO3 := Lib.hid hown3; have hs3 := hg3.size; have HB3 := Lib.hid hb3; clear hown3 hg3 hb3))
  obtain ⟨g, cap, e3, hg, hlt, hle⟩ := HO3.out.form' (n := n + 2) (by simp [HN.out]) (by omega)
  cases e3
  go_ret
  refine ⟨_, rfl, ⟨g, cv3, by rw [HN.out]; rfl, ?_⟩, ?_⟩
  · rw [HN.out]; exact HO3.out.cast (by simp)
  · exact HB3.out _ _ (Nat.le_refl _) (Below.alloc (HB2.out _ _ (Nat.le_refl _) ((Below.refl _ w).grown HG1.out (Nat.le_refl _) (fun k e => by cases e))) (by omega) _)

set_option maxRecDepth 100000 in
theorem kept_any {w : World} {B B' : Nat} {A : Option Addr} {xs ys : List (BitVec 8)} {n : Nat} {v : Value} (c : Nat) (hc : Cpy w B v xs) (hr : Rd b8 w B' A ys) (hn : ys.length = n) (hxy : xs = ys) (hbig : n ≤ 140737488351232) :
    Calls Try.prog 47 #[v, .slice A n c] w fun e w' => e = .returned (.bool true) ∧ w = w' := by
  subst hxy
  subst hn
  obtain ⟨g, cap, rfl, hgb, hglt, hcap, hmx⟩ := hc.shape' rfl
  have ho := hc.own
  obtain ⟨g', cap', e1, hown⟩ := hc
  cases e1
  have r1 := run_str (P := Try.prog) ho.rd 24 9 5 cap Try.underlying24 Try.underlying5 Try.underlying9
  have r2 := run_str (P := Try.prog) hr 24 9 5 c Try.underlying24 Try.underlying5 Try.underlying9
  have hs : ((str xs).toList == (str xs).toList) = true := by simp
  have c1 := (hown.at_ (k := xs.length) (by simp)).1
  have c2 := (hown.at_ (k := xs.length + 1) (by simp)).1
  simp at c1 c2
  rw [show b8 165#8 = .int .u8 165 from rfl] at c1
  rw [show b8 90#8 = .int .u8 90 from rfl] at c2
  obtain ⟨n, hn⟩ : ∃ n, n = xs.length := ⟨_, rfl⟩
  simp only [← hn] at r1 r2 c1 c2 hcap hbig ⊢
  have hcap' : ((cap : Int) < (n : Int) + 2) = False := by simp; omega
  clear hr ho hown hn
  go_enter Try.func47, Try.ntmps47
  go_wp2
  go_ret
  exact ⟨rfl, rfl⟩
end Go.Proofs.Ytloglpamnalmeaa
