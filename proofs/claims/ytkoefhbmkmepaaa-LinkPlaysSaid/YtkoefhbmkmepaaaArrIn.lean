/- PLAIN LEMMAS: whole arrays loaded and stored inside a fence; arrays of bytes compared. No program, no conditions. -/
import Derived.Test.YtkoefhbmkmepaaaArr
import Derived.Test.YtkoefhbmkmepaaaNum
import Derived.Stop.BytesEq
import Derived.TacticsIn
import Derived.RangeFuncCalls
namespace Go.Proofs.Ytkoefhbmkmepaaa
open Go.RowKit
open Go.Extern.Stop (cell)
attribute [local go_sem] Oper.semAt_some
theorem semAt_exec (ro : Option Nat) (ρ : Operand → Value) (o : Oper) (h : ∀ c, o.op ≠ .defer c) : Oper.semAt ro ρ o = execOp ρ o := by
  cases ro with
  | none => unfold Oper.semAt; rfl
  | some l => exact Oper.semAt_some l ρ o h
section
variable {F : Fence} {n : Nat} {P : Program} {α : Type} {f : α → Value} {ops : Array Oper} {rest : List Oper} {op : Oper} {a : Act} {w : World} {Q : Exit → Act → World → Prop}
theorem wpListIn_load_arr (hgd : Region.wanted op (yielded ops a.tmps) = true) (ty : TypeId) (x : Operand) (ho : op.op = .load ty x)
    (g : Nat) (hx : a.eval x = .pointer (some ⟨g, 0, none⟩)) (T : TypeId) (xs : List α) (hA : Arr f w g T xs) (d : TypeDesc)
    (hu : P.underlying ty = some d) (hd : d.isRow = true) (hi : (P.info? ty).map (·.size) = some xs.length)
    (h : wpListIn F n P ops Q rest (a.put op.dst (.agg (xs.map f).toArray)) w) : wpListIn F n P ops Q (op :: rest) a w := by
  refine wpListIn_step fun K hK => ?_
  rw [if_pos hgd]
  have hl := run_loadVar_mid (P := P) w g 0 ty (xs.map f) d hA.whole hu hd (by rw [hi, List.length_map])
  unfold Oper.wpIn
  refine ⟨fun f' hf' => by simp [Oper.about, ho] at hf', ?_⟩
  rw [semAt_exec _ _ _ (fun c => by rw [ho]; simp)]
  unfold execOp
  simp only [ho, hx, Instr.loadAt, Instr.sureAddr, Sem.run_bind, Sem.run_pure, Result.andThen_ok, hl, Oper.uponIn_value]
  exact hK _ _ h
theorem wpListIn_store_arr (hgd : Region.wanted op (yielded ops a.tmps) = true) (ty : TypeId) (x y : Operand) (ho : op.op = .store ty x y)
    (g : Nat) (hx : a.eval x = .pointer (some ⟨g, 0, none⟩)) (ys : List α) (hy : a.eval y = .agg (ys.map f).toArray) (T : TypeId) (xs : List α) (hA : Arr f w g T xs) (hl : xs.length = ys.length)
    (hi : (P.info? ty).map (·.size) = some ys.length) (h1 : ∀ u, (f u).oneCell' = true)
    (h : ∀ w', Arr f w' g T ys → w.grownBy w' (some g) → wpListIn F n P ops Q rest (a.put op.dst undef) w') : wpListIn F n P ops Q (op :: rest) a w := by
  obtain ⟨h2, h3⟩ := arr_setCells (f := f) ys [] xs w hl hA
  refine wpListIn_step fun K hK => ?_
  rw [if_pos hgd]
  have hs := run_storeVar_mid (P := P) w g 0 ty (ys.map f).toArray (hA.there (by simp [hl])) (by rw [hi]; simp) (all_oneCell_toArray (fun v hv => by obtain ⟨u, _, rfl⟩ := List.mem_map.1 hv; exact h1 u))
  unfold Oper.wpIn
  refine ⟨fun f' hf' => by simp [Oper.about, ho] at hf', ?_⟩
  rw [semAt_exec _ _ _ (fun c => by rw [ho]; simp)]
  unfold execOp
  simp only [ho, hx, hy, Instr.storeAt, Instr.sureAddr, Sem.run_bind, Sem.run_pure, Result.andThen_ok, hs, Oper.uponIn_skip]
  exact hK _ _ (h _ h2 h3)
end

/-- a byte as the library has it -/
def u8 (x : BitVec 8) : UInt8 := UInt8.ofNat x.toNat
theorem map_b8_cell (xs : List (BitVec 8)) : xs.map b8 = (xs.map u8).map cell := by
  rw [List.map_map]
  refine List.map_congr_left fun x _ => ?_
  show Value.int .u8 (bv x) = Value.int .u8 ((u8 x).toNat : Int)
  have : (u8 x).toNat = x.toNat := by
    unfold u8
    rw [UInt8.toNat_ofNat']
    have := x.isLt
    omega
  rw [this]; rfl
theorem u8_beq (xs ys : List (BitVec 8)) : (xs.map u8 == ys.map u8) = (xs == ys) := by
  rw [Bool.eq_iff_iff, beq_iff_eq, beq_iff_eq]
  exact ⟨fun h => map_inj' _ (fun _ _ h => u8_inj h) _ _ h, fun h => by rw [h]⟩
theorem run_eql_b8 {P : Program} (w : World) (t e : TypeId) (n : Nat) (ht : P.underlying t = some (.array n e)) (he : P.underlying e = some (.int .u8)) (hsz : ∀ w, (sizeOf e).run P w = .ok 1 w) (xs ys : List (BitVec 8)) (hx : xs.length = n) (hy : ys.length = n) :
    (binOp .eql t (.agg (xs.map b8).toArray) (.agg (ys.map b8).toArray)).run P w = .ok (.bool (xs == ys)) w := by
  rw [map_b8_cell, map_b8_cell, run_eql_bytes w t e n ht he hsz (xs.map u8) (ys.map u8) (by simpa using hx) (by simpa using hy), u8_beq]
theorem run_neq_b8 {P : Program} (w : World) (t e : TypeId) (n : Nat) (ht : P.underlying t = some (.array n e)) (he : P.underlying e = some (.int .u8)) (hsz : ∀ w, (sizeOf e).run P w = .ok 1 w) (xs ys : List (BitVec 8)) (hx : xs.length = n) (hy : ys.length = n) :
    (binOp .neq t (.agg (xs.map b8).toArray) (.agg (ys.map b8).toArray)).run P w = .ok (.bool (!(xs == ys))) w := by
  rw [map_b8_cell, map_b8_cell, run_neq_struct, run_equalIn_bytes w 9998 t e n ht he hsz (xs.map u8) (ys.map u8) (by simpa using hx) (by simpa using hy), u8_beq]
  rfl
end Go.Proofs.Ytkoefhbmkmepaaa
