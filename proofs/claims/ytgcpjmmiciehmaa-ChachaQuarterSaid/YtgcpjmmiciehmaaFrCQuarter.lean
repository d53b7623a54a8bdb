/- ChachaQuarter: for every input the statement's function returns true and leaves its arguments as they were. No condition. -/
import Derived.Test.YtgcpjmmiciehmaaCQuarter
import Derived.Test.YtgcpjmmiciehmaaOpen
namespace Go.Proofs.Ytgcpjmmiciehmaa.chachaQuarter
open Go.ChangeShapes Go.WideShapes Go.ChangeAt Go.RowKit
set_option linter.unusedVariables false

theorem own : ownKnob Try.prog.godebug = none := by kernel_rfl
theorem laidOut : laidOutB Try.prog = true := by kernel_rfl

set_option maxRecDepth 100000 in
theorem lifted (os : Os) (started : os.Started) (H : Type) (enc : TypeId × Value → H) :
    ReturnsInHanded {} Try.checked os 4 .any (Rows.chachaQuarterSpec.pre6 enc Try.prog Try.f4 Rows.chachaQuarterRow.domain false) (Rows.chachaQuarterSpec.post enc Try.prog Try.f4 false true false false) := by
  refine returnsInHanded_of_change (C := Try.checked) own started (by kernel_rfl) Try.func4
    (ChangeSpec.witness6 (enc := enc) (C := Try.checked) false ⟨#[], #[.agg #[.int .u32 0, .int .u32 0, .int .u32 0, .int .u32 0]], []⟩ 8 (by kernel_rfl) (by kernel_rfl) (by kernel_rfl) (by kernel_rfl)) ?_
  intro W base args ds gs before hval0 hW hcnd _
  have hval : ∀ (j : Nat) t v, Try.f4.params[j]? = some t → args[j]? = some v → Value.okWide Try.prog W .any base t v := hval0
  have hW' := hW
  obtain ⟨p, q, hA0, hV, rfl, hfz, hnd⟩ := hW
  have hA : DataW.TrodAll enc Try.prog W 0 (fun _ => true) true Try.f4.params.toList args.toList ds p := hA0
  rw [Try.params4] at hA hval
  obtain ⟨v0, vs0, d0, ds0, p0, q0, hargs, rfl, rfl, h0, r0⟩ := trodAll_cons hA
  obtain ⟨rfl, rfl, rfl⟩ := trodAll_nil r0
  obtain rfl : args = #[v0] := by cases args; simp_all
  obtain ⟨rfl, rfl⟩ := trodVars_none hV
  have k0 := h0
  have lt0 : ∀ x ∈ p0, x.block < W.heap.size := by obtain ⟨m, hm⟩ := k0; exact DataW.trod_lt m _ _ _ hm
  obtain ⟨c0_0, c1_0, c2_0, c3_0, y0, y1, y2, y3, m0, rfl, -, -, g0, g1, g2, g3⟩ := Joins.open_agg4 Try.underlying30 (by kernel_rfl) (by kernel_rfl) (hval 0 30 v0 rfl rfl) h0
  obtain ⟨z0_0, e0_0, -, wf0_0⟩ := DataW.trod_int Try.underlying28 g0
  obtain ⟨u0_0, rfl⟩ := word_of wf0_0
  simp only [List.cons.injEq, and_true] at e0_0
  subst e0_0
  obtain ⟨z1_0, e1_0, -, wf1_0⟩ := DataW.trod_int Try.underlying28 g1
  obtain ⟨u1_0, rfl⟩ := word_of wf1_0
  simp only [List.cons.injEq, and_true] at e1_0
  subst e1_0
  obtain ⟨z2_0, e2_0, -, wf2_0⟩ := DataW.trod_int Try.underlying28 g2
  obtain ⟨u2_0, rfl⟩ := word_of wf2_0
  simp only [List.cons.injEq, and_true] at e2_0
  subst e2_0
  obtain ⟨z3_0, e3_0, -, wf3_0⟩ := DataW.trod_int Try.underlying28 g3
  obtain ⟨u3_0, rfl⟩ := word_of wf3_0
  simp only [List.cons.injEq, and_true] at e3_0
  subst e3_0
  clear hA0 hval0
  refine (cquarter_walk u0_0 u1_0 u2_0 u3_0 W).mono fun e W' ⟨he, bel⟩ => ?_
  subst he
  exact ⟨_, rfl, _, _, _, [], _, [], hW', trodAll_mk1 (shut_bool Try.underlying4 _), (trodAll_cons_mk (Below.trod laidOut (by kernel_rfl) (of_decide_eq_true (by kernel_rfl)) k0 bel lt0) trodAll_mk0), rfl, bel.frame _, fun h => by cases h⟩

theorem over : Rows.chachaQuarterRow.holds Try.pinned (OpenSpec.ofChange Rows.chachaQuarterSpec) :=
  OpenClaim.holds_of_wide 4 Try.f4 rfl rfl rfl rfl rfl rfl rfl ⟨rfl, rfl, rfl, rfl, rfl⟩ rfl rfl rfl rfl rfl (by kernel_rfl) Try.func4 (by kernel_rfl)
    (of_decide_eq_true (by kernel_rfl)) (by unfold Func.isWrapper; first | (rw [if_pos (by decide +kernel)]; kernel_rfl) | (rw [if_neg (by decide +kernel)]; exact ⟨rfl, rfl⟩))
    (fun os started H enc _ => lifted os started H enc)

/-- the statement -/
theorem proved : Rows.ChachaQuarterSaid := over
#print axioms proved
end Go.Proofs.Ytgcpjmmiciehmaa.chachaQuarter
