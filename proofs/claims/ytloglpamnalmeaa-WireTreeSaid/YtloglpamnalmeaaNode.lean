/- A node's cells; CONTRACTS: wire.blank, burrowref09.Zero. -/
import Derived.Test.YtloglpamnalmeaaTakePk
namespace Go.Proofs.Ytloglpamnalmeaa
open Go.RowKit
set_option linter.unusedVariables false
set_option linter.unusedSimpArgs false

theorem wpList_load_midw {P : Program} {ops : Array Oper} {rest : List Oper} {op : Oper} {a : Act} {w : World} {Q : Exit → Act → World → Prop} (hgd : Region.wanted op (yielded ops a.tmps) = true) (ty : TypeId) (x : Operand) (ho : op.op = .load ty x)
    (g o : Nat) (hx : a.eval x = .pointer (some ⟨g, o, none⟩)) (us : List Value) (d : TypeDesc) (hr : w.rangeAt g o us)
    (hu : P.underlying ty = some d) (hd : d.isRow = true) (hi : (P.info? ty).map (·.size) = some us.length)
    (h : wpList P ops Q rest (a.put op.dst (.agg us.toArray)) w) : wpList P ops Q (op :: rest) a w := by
  refine wpList_step fun K hK => ?_
  rw [if_pos hgd]
  have hl := run_loadVar_mid (P := P) w g o ty us d hr hu hd hi
  unfold Oper.wp execOp
  simp only [ho, hx, Instr.loadAt, Instr.sureAddr, Sem.run_bind, Sem.run_pure, Result.andThen_ok, hl, Oper.upon_value]
  exact hK _ _ h
theorem wpList_build_atw {P : Program} {ops : Array Oper} {rest : List Oper} {op : Oper} {a : Act} {w : World} {Q : Exit → Act → World → Prop} (hgd : Region.wanted op (yielded ops a.tmps) = true) (t : TypeId) (parts : List (Nat × Operand)) (ho : op.op = .build t parts.toArray)
    (cells : Array Value) (vals : List (Nat × Value)) (hv : parts.map (fun x => (x.1, a.eval x.2)) = vals) (hb : P.built t vals = some cells) (h : wpList P ops Q rest (a.put op.dst (.agg cells)) w) : wpList P ops Q (op :: rest) a w := by
  refine wpList_step fun K hK => ?_
  rw [if_pos hgd]
  have hr := run_build (P := P) w t vals.toArray cells hb
  rw [← hv, ← List.map_toArray] at hr
  unfold Oper.wp execOp
  simp only [ho]
  have e : (parts.toArray.map fun (i, x) => (i, a.eval x)) = parts.toArray.map (fun x => (x.1, a.eval x.2)) := rfl
  rw [e]
  simp only [Sem.run_bind, Sem.run_pure, Result.andThen_ok, hr, Oper.upon_value]
  exact hK _ _ h

/-- what a node says -/
structure NodeD where
  used : Bool
  name : Int
  key : List (BitVec 8)
  sign : List (BitVec 8)
  par : List (BitVec 8)
  um : List Int
structure NodeD.Ok (x : NodeD) : Prop where
  key : x.key.length = 32
  sign : x.sign.length = 32
  par : x.par.length = 32
  name : (Lit.int .i64 x.name).wf = true
  um : ∀ z ∈ x.um, (Lit.int .i64 z).wf = true
def nodeC (x : NodeD) (A : Option Addr) (c : Nat) : List Value := (.bool x.used :: .int .i64 x.name :: x.key.map b8) ++ (x.sign.map b8 ++ (x.par.map b8 ++ [.slice A x.um.length c]))
theorem nodeC_len {x : NodeD} (h : x.Ok) (A : Option Addr) (c : Nat) : (nodeC x A c).length = 99 := by simp [nodeC, h.key, h.sign, h.par]
theorem nodeC_one (x : NodeD) (A : Option Addr) (c : Nat) : ∀ u ∈ nodeC x A c, u.oneCell' = true := by
  intro u hu
  simp only [nodeC, List.mem_append, List.mem_map, List.mem_cons, List.not_mem_nil, or_false] at hu
  rcases hu with (rfl | rfl | ⟨y, -, rfl⟩) | ⟨y, -, rfl⟩ | ⟨y, -, rfl⟩ | rfl <;> rfl
section
variable {w : World} {g : Nat} {T : TypeId} {x : NodeD} {A : Option Addr} {c : Nat}
theorem nodeC_key (h : Blk w g T (nodeC x A c)) (hx : x.Ok) : w.rangeAt g 2 (x.key.map b8) := by
  have := h.range 2 32
  unfold nodeC at this
  rw [List.drop_append_of_le_length (by simp [hx.key]), List.drop_succ_cons, List.drop_succ_cons, List.drop_zero, List.take_append_of_le_length (by simp [hx.key]), List.take_of_length_le (by simp [hx.key])] at this
  exact this
theorem nodeC_sign (h : Blk w g T (nodeC x A c)) (hx : x.Ok) : w.rangeAt g 34 (x.sign.map b8) := by
  have := h.range 34 32
  unfold nodeC at this
  rw [List.drop_append, List.drop_eq_nil_of_le (by simp [hx.key]), List.nil_append, show 34 - (Value.bool x.used :: Value.int .i64 x.name :: x.key.map b8).length = 0 by simp [hx.key], List.drop_zero, List.take_append_of_le_length (by simp [hx.sign]), List.take_of_length_le (by simp [hx.sign])] at this
  exact this
theorem nodeC_par (h : Blk w g T (nodeC x A c)) (hx : x.Ok) : w.rangeAt g 66 (x.par.map b8) := by
  have := h.range 66 32
  unfold nodeC at this
  rw [List.drop_append, List.drop_eq_nil_of_le (by simp [hx.key]), List.nil_append, List.drop_append, List.drop_eq_nil_of_le (by simp [hx.key, hx.sign]), List.nil_append, show 66 - (Value.bool x.used :: Value.int .i64 x.name :: x.key.map b8).length - (x.sign.map b8).length = 0 by simp [hx.key, hx.sign], List.drop_zero, List.take_append_of_le_length (by simp [hx.par]), List.take_of_length_le (by simp [hx.par])] at this
  exact this
theorem nodeC_um (h : Blk w g T (nodeC x A c)) (hx : x.Ok) : w.cell? ⟨g, 98, none⟩ = some (.slice A x.um.length c) := h.cell 98 (by simp [nodeC, hx.key, hx.sign, hx.par])
theorem nodeC_used (h : Blk w g T (nodeC x A c)) : w.cell? ⟨g, 0, none⟩ = some (.bool x.used) := h.cell 0 rfl
theorem nodeC_name (h : Blk w g T (nodeC x A c)) : w.cell? ⟨g, 1, none⟩ = some (.int .i64 x.name) := h.cell 1 rfl
end
/-- is it zero? -/
def zeroN (x : NodeD) : Bool := !x.used && (x.name == 0) && (x.key == zero32) && (x.sign == zero32) && (x.par == zero32) && (x.um.length == 0)
theorem infoKeyN : (Try.prog.info? 47).map (·.size) = some 32 := by kernel_rfl
theorem infoNode : (Try.prog.info? 50).map (·.size) = some 99 := by kernel_rfl
theorem built_key : Try.prog.built 47 [] = some (zero32.map b8).toArray := by kernel_rfl
theorem built_sum : Try.prog.built 23 [] = some (zero32.map b8).toArray := by kernel_rfl
end Go.Proofs.Ytloglpamnalmeaa
