/- PLAIN LEMMA: an append that fits stays in its block. -/
import Derived.Test.YtmncihhofppkdaaDoorBase
namespace Go.Proofs.YtmncihhofppkdaaDoor
open Go.RowKit
set_option linter.unusedVariables false
set_option linter.unusedSimpArgs false

theorem run_append_fit {P : Program} {w : World} (base : Nat) (t ty e : TypeId) (i : TypeInfo) (ht : P.underlying t = some (.slice e)) (hi : P.info? e = some i) (hsize : i.size = 1)
    (g L cap : Nat) (xs : List (BitVec 8)) (hL : xs.length = L) (hown : Own b8 w base e (.slice (some ⟨g, 0, none⟩) L cap) xs) (B : Nat) (ad : Addr) (c : Nat) (ys : List (BitVec 8)) (hr : Rd b8 w B (some ad) ys) (hfit : L + ys.length ≤ cap) :
    ∃ w', (Builtin.append_ #[t, t] ty #[.slice (some ⟨g, 0, none⟩) L cap, .slice (some ad) ys.length c]).run P w = .ok (.slice (some ⟨g, 0, none⟩) (L + ys.length) cap) w' ∧ Own b8 w' base e (.slice (some ⟨g, 0, none⟩) (L + ys.length) cap) (xs ++ ys) ∧ w.grownBy w' (some g) := by
  subst hL
  have hcells := hr.cells rfl
  have h1 : ∀ u ∈ ys.map b8, u.oneCell' = true := by intro u hu; obtain ⟨x, _, rfl⟩ := List.mem_map.1 hu; exact b8_one x
  obtain ⟨w', hrun, ho, hgr⟩ := run_append_fits (P := P) w base t ty e i 1 ht hi hsize g xs.length cap (xs.map b8) hown ad ys.length c (ys.map b8) (by simp) hcells h1 hfit
  exact ⟨w', hrun, by unfold Own; rw [List.length_append, List.map_append]; exact ho, hgr⟩
theorem step_append_fit {P : Program} {w : World} {ops : Array Oper} {o : Oper} {a : Act} {K : Act → World → Prop} {Q : Exit → Act → World → Prop} {F : Prop} (hgd : o.guard = none) (s x : Operand) (t : TypeId)
    (ho : o.op = .call { callee := .builtin .append, args := #[s, x], argTypes := #[t, t] })
    (base : Nat) (e : TypeId) (i : TypeInfo) (ht : P.underlying t = some (.slice e)) (hi : P.info? e = some i) (hsize : i.size = 1)
    (g L cap : Nat) (xs : List (BitVec 8)) (hL : xs.length = L) (hs : a.eval s = .slice (some ⟨g, 0, none⟩) L cap) (hown : Own b8 w base e (.slice (some ⟨g, 0, none⟩) L cap) xs)
    (B : Nat) (ad : Addr) (m c : Nat) (ys : List (BitVec 8)) (hx : a.eval x = .slice (some ad) m c) (hm : m = ys.length) (hr : Rd b8 w B (some ad) ys) (hfit : L + m ≤ cap)
    (h : ∀ w', Own b8 w' base e (.slice (some ⟨g, 0, none⟩) (L + m) cap) (xs ++ ys) → w.grownBy w' (some g) → K (a.put o.dst (.slice (some ⟨g, 0, none⟩) (L + m) cap)) w') :
    if Region.wanted o (yielded ops a.tmps) = true then Oper.wp P o a w K Q else F := by
  have hw : Region.wanted o (yielded ops a.tmps) = true := by simp [Region.wanted, hgd]
  rw [if_pos hw]
  subst hm
  obtain ⟨w', hrun, h2, h3⟩ := run_append_fit (P := P) base t o.type e i ht hi hsize g L cap xs hL hown B ad c ys hr hfit
  unfold Oper.wp execOp
  simp only [ho, resolve, invoke, builtin, Sem.run_bind, Sem.run_pure, Result.andThen_ok, List.map_toArray, List.map_cons, List.map_nil, hs, hx, hrun]
  exact h w' h2 h3
end Go.Proofs.YtmncihhofppkdaaDoor
