/- CONTRACTS: bits.RotateLeft32/64, sha.longs, begin, shorts, turns, wideTurns. -/
import Derived.Test.YtmncihhofppkdaaDoorShaD
import Derived.Test.YtmncihhofppkdaaDoorBase
namespace Go.Proofs.YtmncihhofppkdaaDoor
open Go.RowKit
set_option linter.unusedVariables false
set_option linter.unusedSimpArgs false

def w32 (x : BitVec 32) : Value := .int .u32 (bv x)
def w64 (x : BitVec 64) : Value := .int .u64 (bv x)
theorem w32_one (x : BitVec 32) : (w32 x).oneCell' = true := rfl
theorem w64_one (x : BitVec 64) : (w64 x).oneCell' = true := rfl
theorem rot_count (k : Int) : bits .and .u64 (IntKind.u64.wrap k) 31 = (((k % 32).toNat : Nat) : Int) := by
  rw [ofint_u64, show (31 : Int) = @OfNat.ofNat Int 31 instOfNat from rfl, and_u64_lit]
  unfold bv
  rw [BitVec.toNat_and, show (BitVec.ofNat 64 31).toNat = 2 ^ 5 - 1 from rfl, Nat.and_two_pow_sub_one_eq_mod, BitVec.toNat_ofInt]
  omega
theorem rot_count64 (k : Int) : bits .and .u64 (IntKind.u64.wrap k) 63 = (((k % 64).toNat : Nat) : Int) := by
  rw [ofint_u64, show (63 : Int) = @OfNat.ofNat Int 63 instOfNat from rfl, and_u64_lit]
  unfold bv
  rw [BitVec.toNat_and, show (BitVec.ofNat 64 63).toNat = 2 ^ 6 - 1 from rfl, Nat.and_two_pow_sub_one_eq_mod, BitVec.toNat_ofInt]
  omega
theorem rotl32_any (x : BitVec 32) (k : Int) (w : World) :
    Calls Tryd.prog 83 #[.int .u32 (bv x), .int .i64 k] w fun e w' => e = .returned (.int .u32 (bv (rotl x (k % 32).toNat))) ∧ w = w' := by
  have hc := rot_count k
  generalize hs : (k % 32).toNat = s at hc ⊢
  have h1 : s ≤ 31 := by omega
  have h2 : ((32 : Int) - (s : Int)) = ((32 - s : Nat) : Int) := by omega
  clear hs
  go_enter Tryd.func83, Tryd.ntmps83
  go_wp2
  go_ret
  exact ⟨rfl, rfl⟩
theorem turns_any (x : BitVec 32) (a b c : Int) (ha : -100 ≤ a ∧ a ≤ 100) (hb : -100 ≤ b ∧ b ≤ 100) (hc : -100 ≤ c ∧ c ≤ 100) (w : World) :
    Calls Tryd.prog 84 #[.int .u32 (bv x), .int .i64 a, .int .i64 b, .int .i64 c] w fun e w' => e = .returned (.int .u32 (bv (rotl x (-a % 32).toNat ^^^ rotl x (-b % 32).toNat ^^^ rotl x (-c % 32).toNat))) ∧ w = w' := by
  have ha' : wrap64 (-a) = -a := IntWalk.wrap64_in _ (by omega)
  have hb' : wrap64 (-b) = -b := IntWalk.wrap64_in _ (by omega)
  have hc' : wrap64 (-c) = -c := IntWalk.wrap64_in _ (by omega)
  clear ha hb hc
  go_enter Tryd.func84, Tryd.ntmps84
  go_wp2_with (go_at_call 83; refine (rotl32_any _ _ _).mono ?_; rintro e w' ⟨rfl, rfl⟩)
  go_ret
  exact ⟨rfl, rfl⟩
theorem turnsS1 (x : BitVec 32) (w : World) : Calls Tryd.prog 84 #[.int .u32 (bv x), .int .i64 6, .int .i64 11, .int .i64 25] w fun e w' => e = .returned (.int .u32 (bv (sha32.S1 x))) ∧ w = w' := turns_any x 6 11 25 (by decide) (by decide) (by decide) w
theorem turnsS0 (x : BitVec 32) (w : World) : Calls Tryd.prog 84 #[.int .u32 (bv x), .int .i64 2, .int .i64 13, .int .i64 22] w fun e w' => e = .returned (.int .u32 (bv (sha32.S0 x))) ∧ w = w' := turns_any x 2 13 22 (by decide) (by decide) (by decide) w
/-- an operation whose value is known in any frame -/
theorem wpList_val {P : Program} {ops : Array Oper} {rest : List Oper} {op : Oper} {a : Act} {w : World} {Q : Exit → Act → World → Prop} (hgd : op.guard = none) (v : Value) (h : ∀ a w, (execOp (Act.eval a) op).run P w = .ok (.value v) w)
    (k : wpList P ops Q rest (a.put op.dst v) w) : wpList P ops Q (op :: rest) a w := by
  refine wpList_plain hgd fun K hK => ?_
  unfold Oper.wp
  rw [h a w]
  exact hK _ _ k
def noughts80 : Array Value := ((List.replicate 80 0#64).map w64).toArray
set_option maxRecDepth 100000 in
theorem longs_any (w : World) : Calls Tryd.prog 82 #[] w fun e w' => e = .returned (.agg (K64.map w64).toArray) ∧ Below w.heap.size w w' := by
  have hz : ∀ w, (zeroValue 143).run Tryd.prog w = .ok (.agg noughts80) w := fun _ => by kernel_rfl
  have HX0 := Lib.hid (show Arr w64 (w.alloc (.cells noughts80 143)) w.heap.size 143 (List.replicate 80 0#64) from Arr.new w64 w _ _)
  go_enter Tryd.func82, Tryd.ntmps82
  go_wp2_with (first
    | refine wpList_val rfl (.agg (K64.map w64).toArray) (fun a w => by as_aux_lemma => kernel_rfl) ?_
    | (refine wpList_store_arr rfl 143 _ _ rfl w.heap.size rfl K64 rfl _ _ HX0.out rfl (by kernel_rfl) w64_one ?_; intro w1 hx1 hg1))
  refine bodyPost_ret (v := .agg (K64.map w64).toArray) (results_arr (g := w.heap.size) rfl _ _ _ _ _ rfl hx1 Tryd.underlying143 rfl (by kernel_rfl)) rfl ?_
  exact ⟨rfl, ((Below.refl _ _).alloc (Nat.le_refl _) _).grown hg1 (by simp) (fun k e => by cases e; simp)⟩
set_option maxRecDepth 100000 in
theorem begin_any (w : World) : Calls Tryd.prog 77 #[] w fun e w' => e = .returned (.agg (begin64.list.map w64).toArray) ∧ Below w.heap.size w w' := by
  have HX0 := Lib.hid (show Arr w64 (w.alloc (.cells ((List.replicate 8 0#64).map w64).toArray 133)) w.heap.size 133 (List.replicate 8 0#64) from Arr.new w64 w _ _)
  go_enter Tryd.func77, Tryd.ntmps77
  go_wp2_with (refine wpList_store_arr rfl 133 _ _ rfl w.heap.size rfl begin64.list (by kernel_rfl) _ _ HX0.out rfl (by kernel_rfl) w64_one ?_; intro w1 hx1 hg1)
  refine bodyPost_ret (v := .agg (begin64.list.map w64).toArray) (results_arr (g := w.heap.size) rfl _ _ _ _ _ rfl hx1 Tryd.underlying133 rfl (by kernel_rfl)) rfl ?_
  exact ⟨rfl, ((Below.refl _ _).alloc (Nat.le_refl _) _).grown hg1 (by simp) (fun k e => by cases e; simp)⟩
end Go.Proofs.YtmncihhofppkdaaDoor
