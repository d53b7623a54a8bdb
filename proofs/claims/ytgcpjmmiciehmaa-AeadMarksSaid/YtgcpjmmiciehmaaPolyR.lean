/- CONTRACTS: the reference's numbers as lists of digits: numbers, trim, plus. -/
import Derived.Test.YtgcpjmmiciehmaaPolyD
namespace Go.Proofs.Ytgcpjmmiciehmaa
open Go.RowKit
set_option linter.unusedVariables false
set_option linter.unusedSimpArgs false

theorem infoIntR : (Try.prog.info? 3).map (fun i => (i.zero, i.size, i.bytes)) = some (some (.int .i64 0), 1, 8) := by kernel_rfl
/-- a digit as a value -/
def dN (n : Nat) : Value := .int .i64 (n : Int)
theorem dN_one (n : Nat) : (dN n).oneCell' = true := rfl
def lenR : Value → Int
  | .slice _ n _ => n
  | _ => 0
set_option maxRecDepth 100000 in
theorem numbers_any (w : World) (B n c : Nat) (A : Option Addr) (xs : List (BitVec 8)) (hr : Rd b8 w B A xs) (hB : B ≤ w.heap.size) (hn : n = xs.length) (hbig : n ≤ 1000) :
    Calls Try.prog 53 #[.slice A n c] w fun e w' => ∃ v, e = .returned v ∧ Own dN w' w.heap.size 3 v (xs.map BitVec.toNat) ∧ Below w.heap.size w w' := by
  obtain ⟨i0, hi0, hz0, hz1, hz2⟩ := info_parts infoIntR
  have HR := Lib.hid (hr.more hB)
  have HN := Lib.hid hn
  clear hr hn hB
  go_enter Try.func53, Try.ntmps53
  go_wp2_with fail
  go_loopw [3, 4] (fun v iv wr => ∃ k : Nat, k ≤ n ∧ iv = .int .i64 (k : Int) ∧ Own dN wr w.heap.size 3 v ((xs.take k).map BitVec.toNat) ∧ Below w.heap.size w wr) (fun _ iv _ => n - (intOf iv).toNat)
  case atStart => exact ⟨0, by omega, rfl, Own.nil_ _ _ _ _, Below.refl _ _⟩
  case round =>
    obtain ⟨k, hk, rfl, ho, hb⟩ := hrel
    obtain ⟨Ao, co, rfl, -, -, -, -⟩ := ho.shape' (n := k) (by rw [List.length_map, List.length_take, ← HN.out]; omega)
    have HO := Lib.hid ho
    have HB := Lib.hid hb
    have hz := hb.size
    clear ho hb
    by_cases hlt : k < n
    · obtain ⟨b, off, rfl, hbb, hc⟩ := (HR.out.below HB.out).at_ (k := k) (by rw [← HN.out]; omega)
      obtain ⟨x, hx⟩ : ∃ x, x = xs[k]'(by rw [← HN.out]; omega) := ⟨_, rfl⟩
      rw [← hx] at hc
      have hc' : wr.cell? ⟨b, off + k, none⟩ = some (.int .u8 (bv x)) := hc
      have HX := Lib.hid hx
      have hlt' : (k : Int) < (n : Int) := by omega
      clear hc hx
      go_wp2_with (at_builtin; refine wpList_append_rd rfl (.tmp 11) (.tmp 17) 97 rfl dN_one w.heap.size 3 i0 _ 8 Try.underlying97 hi0 hz0 hz1 hz2 rfl _ _ rfl (HO.out.alloc _) (wr.heap.size + 1) _ 1 1 [x.toNat] rfl rfl (Rd.new dN wr 3 [x.toNat]) (by have := HN.out; simp [maxLen]; omega) (by have := HN.out; simp; omega) (by (first | omega | (simp; done) | (simp; omega) | (simp at *; omega))) ?_; intro v7 w7 hown7 hg7 hbb7)
      go_roundw
      case rel =>
        refine ⟨k + 1, by omega, by simp, hown7.cast ?_, hbb7 _ _ (Nat.le_refl _) (HB.out.alloc (by omega) _)⟩
        have h1 : k < xs.length := by rw [← HN.out]; omega
        rw [List.take_add_one, List.map_append, List.getElem?_eq_getElem h1, HX.out]; rfl
      case measure => simp [intOf]; omega
    · obtain rfl : k = n := by omega
      go_wp2_with fail
      go_ret
      exact ⟨_, rfl, HO.out.cast (by rw [List.take_of_length_le (by rw [← HN.out]; omega)]), HB.out⟩
theorem sliced_z (a : Option Addr) (h m s : Nat) : sliced a 0 h m s = .slice a h m := by
  unfold sliced
  rw [Nat.zero_mul, Nat.sub_zero, Nat.sub_zero]
  cases a <;> simp [Addr.add]
attribute [local go_sem high] sliced_z
theorem valN_take_succ (xs : List Nat) (k : Nat) (h : k < xs.length) : valN (xs.take (k + 1)) = valN (xs.take k) + 256 ^ k * xs[k] := by
  rw [List.take_add_one, List.getElem?_eq_getElem h]
  simp only [Option.toList_some]
  rw [valN_snoc, List.length_take, Nat.min_eq_left (by omega)]
theorem valN_take_all (xs : List Nat) (k : Nat) (h : xs.length ≤ k) : valN (xs.take k) = valN xs := by rw [List.take_of_length_le h]
set_option maxRecDepth 100000 in
theorem trim_any (w : World) (B n c : Nat) (A : Option Addr) (xs : List Nat) (hr : Rd dN w B A xs) (hn : n = xs.length) (hc : n ≤ c) (hbig : n ≤ 1000000) :
    Calls Try.prog 55 #[.slice A n c] w fun e w' => ∃ m, e = .returned (.slice A m c) ∧ m ≤ n ∧ valN (xs.take m) = valN xs ∧ (m = 0 ∨ 256 ^ (m - 1) ≤ valN xs) ∧ w = w' := by
  have HR := Lib.hid hr
  have HN := Lib.hid hn
  clear hr hn
  go_enter Try.func55, Try.ntmps55
  go_wp2_with fail
  go_loopw [0] (fun va wr => ∃ k : Nat, k ≤ n ∧ va = .slice A k c ∧ valN (xs.take k) = valN xs ∧ wr = w) (fun va _ => (lenR va).toNat)
  case atStart => exact ⟨n, by omega, rfl, valN_take_all _ _ (by rw [HN.out]; omega), rfl⟩
  case round =>
    obtain ⟨k, hk, rfl, hv, rfl⟩ := hrel
    have HV := Lib.hid hv
    clear hv
    by_cases h0 : k = 0
    · subst h0
      go_wp2_with fail
      go_ret
      exact ⟨0, rfl, by omega, HV.out, .inl rfl, rfl⟩
    · obtain ⟨j, rfl⟩ : ∃ j, k = j + 1 := ⟨k - 1, by omega⟩
      obtain ⟨b, off, rfl, hb, hcl⟩ := HR.out.at_ (k := j) (by rw [← HN.out]; omega)
      obtain ⟨x, hx⟩ : ∃ x, x = xs[j]'(by rw [← HN.out]; omega) := ⟨_, rfl⟩
      rw [← hx] at hcl
      have hc' : wr.cell? ⟨b, off + j, none⟩ = some (.int .i64 (x : Int)) := hcl
      have HS := Lib.hid (show valN (xs.take (j + 1)) = valN (xs.take j) + 256 ^ j * x by rw [hx]; exact valN_take_succ xs j (by rw [← HN.out]; omega))
      have e1 : ((j + 1 : Nat) : Int) - 1 = (j : Int) := by omega
      have hjc : j ≤ c := by omega
      clear hcl hx h0
      by_cases hx0 : x = 0
      · subst hx0
        go_wp2_with fail
        go_roundw
        case rel => exact ⟨j, by omega, rfl, by have := HS.out; rw [← HV.out, this]; omega, trivial⟩
        case measure => simp [lenR]
      · have hx1 : ¬ ((x : Int) = 0) := by omega
        go_wp2_with fail
        go_ret
        exact ⟨j + 1, rfl, by omega, HV.out, .inr (by
          have h1 := HS.out
          rw [HV.out] at h1
          have h2 : 256 ^ j * 1 ≤ 256 ^ j * x := Nat.mul_le_mul_left _ (by omega)
          simp only [Nat.add_sub_cancel]; omega), rfl⟩
end Go.Proofs.Ytgcpjmmiciehmaa
