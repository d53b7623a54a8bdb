/- CONTRACTS: bits.RotateLeft32, chacha.Quarter. -/
import Derived.Test.YtkoefhbmkmepaaaBits
import Derived.Test.YtkoefhbmkmepaaaRows
import Derived.Lib.Hide
namespace Go.Proofs.Ytkoefhbmkmepaaa
open Go.RowKit

def rotl32 (x : BitVec 32) (k : Nat) : BitVec 32 := x <<< k ||| x >>> (32 - k)

theorem rot_count (k : Int) : bits .and .u64 (IntKind.u64.wrap k) 31 = (((k % 32).toNat : Nat) : Int) := by
  rw [ofint_u64, show (31 : Int) = @OfNat.ofNat Int 31 instOfNat from rfl, and_u64_lit]
  unfold bv
  rw [BitVec.toNat_and, show (BitVec.ofNat 64 31).toNat = 2 ^ 5 - 1 from rfl, Nat.and_two_pow_sub_one_eq_mod, BitVec.toNat_ofInt]
  omega

theorem rot32_any (x : BitVec 32) (k : Int) (w : World) :
    Calls Try.prog 68 #[.int .u32 (bv x), .int .i64 k] w fun e w' => e = .returned (.int .u32 (bv (rotl32 x (k % 32).toNat))) ∧ w = w' := by
  have hc := rot_count k
  generalize hs : (k % 32).toNat = s at hc ⊢
  have h1 : s ≤ 31 := by omega
  have h2 : ((32 : Int) - (s : Int)) = ((32 - s : Nat) : Int) := by omega
  clear hs
  go_enter Try.func68, Try.ntmps68
  go_wp2
  go_ret
  exact ⟨rfl, rfl⟩

def quarter (a b c d : BitVec 32) : BitVec 32 × BitVec 32 × BitVec 32 × BitVec 32 :=
  let a1 := a + b
  let d1 := rotl32 (d ^^^ a1) 16
  let c1 := c + d1
  let b1 := rotl32 (b ^^^ c1) 12
  let a2 := a1 + b1
  let d2 := rotl32 (d1 ^^^ a2) 8
  let c2 := c1 + d2
  let b2 := rotl32 (b1 ^^^ c2) 7
  (a2, b2, c2, d2)

theorem results_tmp4 {fn : Func} {t u v x : Tmp} (h : fn.results = #[.tmp t, .tmp u, .tmp v, .tmp x]) (tmps : Array Value) (P : Program) (w : World) :
    (results fn tmps).run P w = .ok (.tuple #[tmps.getD t undef, tmps.getD u undef, tmps.getD v undef, tmps.getD x undef]) w := by simp [results, h]

theorem quarter_any (a b c d : BitVec 32) (w : World) :
    Calls Try.prog 56 #[.int .u32 (bv a), .int .u32 (bv b), .int .u32 (bv c), .int .u32 (bv d)] w fun e w' =>
      e = .returned (.tuple #[.int .u32 (bv (quarter a b c d).1), .int .u32 (bv (quarter a b c d).2.1), .int .u32 (bv (quarter a b c d).2.2.1), .int .u32 (bv (quarter a b c d).2.2.2)]) ∧ w = w' := by
  go_enter Try.func56, Try.ntmps56
  go_wp2_with (go_at_call 68; refine (rot32_any _ _ _).mono ?_; rintro e w' ⟨rfl, rfl⟩)
  refine bodyPost_ret (results_tmp4 rfl _ _ _) rfl ?_
  exact ⟨rfl, rfl⟩
end Go.Proofs.Ytkoefhbmkmepaaa
