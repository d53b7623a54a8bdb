/- CONTRACTS: burrownum.Over; burrowlaw09.answer. PLAIN LAWS: bytes that are put are read back. -/
import Derived.Test.YtloglpamnalmeaaTakePk
import Derived.Test.YtloglpamnalmeaaNum
namespace Go.Proofs.Ytloglpamnalmeaa
open Go.RowKit
set_option linter.unusedVariables false
set_option linter.unusedSimpArgs false

set_option maxRecDepth 100000 in
set_option maxHeartbeats 1000000 in
theorem over_any {w : World} {B : Nat} {v : Value} {xs : List (BitVec 8)} (ho : Own b8 w B 5 v xs) (hx : xs.length ≤ 1000000000) :
    Calls Try.prog 17 #[v] w fun e w' => e = .returned (.tuple #[]) ∧ w.grownBy w' v.ownBlock := by
  obtain ⟨n, hn⟩ : ∃ n, n = xs.length := ⟨_, rfl⟩
  by_cases h0 : n = 0
  · obtain ⟨A, c, rfl, -, -, -, -⟩ := ho.shape' (n := 0) (by omega)
    clear ho hx hn h0
    go_enter Try.func17, Try.ntmps17
    go_wp2
    go_loopw [2, 5] (fun cv iv wr => iv = .int .i64 0 ∧ wr = w) (fun _ iv _ => 0)
    case atStart => exact ⟨rfl, rfl⟩
    case round =>
      obtain ⟨rfl, rfl⟩ := hrel
      go_wp2
      go_end0
      exact ⟨rfl, World.grownBy.refl _ _⟩
  · obtain ⟨g, cap, rfl, hg, hlt, hcap⟩ := ho.form' hn.symm (by omega)
    have HO := Lib.hid ho
    have Hn := Lib.hid hn
    rw [← hn] at hx
    clear ho hn h0
    go_enter Try.func17, Try.ntmps17
    go_wp2
    go_loopw [2, 5] (fun cv iv wr => ∃ (k : Nat) (ys : List (BitVec 8)), k ≤ n ∧ iv = .int .i64 (k : Int) ∧ ys.length = n ∧ Own b8 wr B 5 (.slice (some ⟨g, 0, none⟩) n cap) ys ∧ w.grownBy wr (some g)) (fun _ iv _ => n - (intOf iv).toNat)
    case atStart => exact ⟨0, xs, by omega, rfl, Hn.out.symm, HO.out, World.grownBy.refl _ _⟩
    case round =>
      obtain ⟨k, ys, hk, rfl, hyl, hown, hgr⟩ := hrel
      by_cases hlt' : k < n
      · have hlt2 : (k : Int) < (n : Int) := by omega
        have hc := hown.at_ (k := k) (by rw [hyl]; exact hlt')
        obtain ⟨x, hx'⟩ : ∃ x, x = ys[k]'(by rw [hyl]; exact hlt') := ⟨_, rfl⟩
        rw [← hx'] at hc
        have c1 : wr.cell? ⟨g, k, none⟩ = some (.int .u8 (bv x)) := hc.1
        have f1 := hc.2
        have Hs := Lib.hid (hown.set_ k (x ^^^ 255#8))
        have Hyl := Lib.hid hyl
        have Hgr := Lib.hid hgr
        clear hc hx' hown hyl hgr
        go_wp2
        go_roundw
        case rel => exact ⟨k + 1, ys.set k (x ^^^ 255#8), by omega, by go_num, by rw [List.length_set]; exact Hyl.out, Hs.out.1, grownBy_trans Hgr.out Hs.out.2 (fun _ e => .inl e)⟩
        case measure => simp [intOf]; omega
      · obtain rfl : k = n := by omega
        go_wp2
        go_end0
        exact ⟨rfl, hgr⟩

set_option maxRecDepth 100000 in
theorem answer_ok {w : World} {B1 B2 : Nat} {A1 A2 : Option Addr} {xs : List (BitVec 8)} {n1 n2 : Nat} (c1 c2 : Nat) (h1 : Rd b8 w B1 A1 xs) (h2 : Rd b8 w B2 A2 xs) (hn1 : xs.length = n1) (hn2 : xs.length = n2) :
    Calls Try.prog 15 #[.slice A1 n1 c1, .nilIface, .slice A2 n2 c2, .bool true] w fun e w' => e = .returned (.bool true) ∧ w = w' := by
  have H := Lib.hid (same_any c1 c2 h1 h2 hn1 hn2)
  clear h1 h2 hn1 hn2
  go_enter Try.func15, Try.ntmps15
  go_wp2_with fail
  refine H.out.mono ?_
  rintro e w' ⟨rfl, rfl⟩
  rw [beq_self_eq_true]
  go_wp2_with fail
  go_ret
  exact ⟨rfl, rfl⟩
set_option maxRecDepth 100000 in
theorem answer_bad {w : World} (A1 : Option Addr) (c1 : Nat) (v : Value) :
    Calls Try.prog 15 #[.slice A1 0 c1, .iface 108 (.int .i64 3), v, .bool false] w fun e w' => e = .returned (.bool true) ∧ w = w' := by
  have hi := is_any 3 3 w
  rw [errV_pos (by simp)] at hi
  have HI := Lib.hid hi
  clear hi
  go_enter Try.func15, Try.ntmps15
  go_wp2_with fail
  refine HI.out.mono ?_
  rintro e w' ⟨rfl, rfl⟩
  rw [beq_self_eq_true]
  go_wp2_with fail
  go_ret
  exact ⟨rfl, rfl⟩

theorem tkO_app {N : Nat} {xs ys : List (BitVec 8)} (h : xs.length = N) : tkO N (xs ++ ys) = xs := by
  unfold tkO; rw [if_neg (by rw [List.length_append]; omega), List.take_append_of_le_length (by omega), List.take_of_length_le (by omega)]
theorem tkR_app {N : Nat} {xs ys : List (BitVec 8)} (h : xs.length = N) : tkR N (xs ++ ys) = ys := by
  subst h
  unfold tkR; rw [if_neg (by rw [List.length_append]; omega), List.drop_left]
theorem tkB_app {N : Nat} {xs ys : List (BitVec 8)} (h : xs.length = N) (b : Bool) : tkB N (xs ++ ys) b = b := by
  unfold tkB; rw [if_neg (by rw [List.length_append]; omega)]
theorem beVal_foldl (xs : List (BitVec 8)) : ∀ a : Nat, xs.foldl (fun a x => 256 * a + x.toNat) a = a * 256 ^ xs.length + beVal xs := by
  induction xs with
  | nil => intro a; simp [beVal]
  | cons x xs ih =>
    intro a
    unfold beVal
    rw [List.foldl_cons, List.foldl_cons, ih, ih, List.length_cons, Nat.pow_succ, Nat.mul_zero, Nat.zero_add, Nat.add_mul, Nat.mul_comm 256 a, Nat.mul_assoc, Nat.mul_comm 256, Nat.add_assoc]
theorem beAt_toNat (N s : Nat) : (beAt (N : Int) s).toNat = N / 256 ^ s % 256 := by
  have h := beAt_nat N s
  rw [wrap_u8v] at h
  unfold bv at h
  omega
theorem beVal_be (N : Nat) : ∀ s, beVal (be (N : Int) s) = N % 256 ^ s
  | 0 => by simp [be, beVal, Nat.mod_one]
  | s + 1 => by
    have h := beVal_foldl (be (N : Int) s) (beAt (N : Int) s).toNat
    rw [be_len, beAt_toNat, beVal_be N s] at h
    have e : beVal (be (N : Int) (s + 1)) = (be (N : Int) s).foldl (fun a x => 256 * a + x.toNat) (beAt (N : Int) s).toNat := by
      show List.foldl _ 0 (beAt (N : Int) s :: be (N : Int) s) = _
      rw [List.foldl_cons, Nat.mul_zero, Nat.zero_add]
    rw [e, beAt_toNat, h, Nat.mod_pow_succ, Nat.mul_comm, Nat.add_comm]
theorem beVal_be_lt {N s : Nat} (h : N < 256 ^ s) : beVal (be (N : Int) s) = N := by rw [beVal_be, Nat.mod_eq_of_lt h]
theorem parse_put (S : List (BitVec 8)) (E F N : Nat) (T : List (BitVec 8)) (hS : S.length = 32) (hE : E < 4294967296) (hF : F < 256) (hN : N < 4294967296) (hT : T.length < 65536) :
    parsePk (pkBytes S E F N T) = ⟨S, E, F, N, T, [], false⟩ := by
  have e : pkBytes S E F N T = S ++ (be E 4 ++ (be F 1 ++ (be N 4 ++ (be (T.length : Int) 2 ++ (T ++ []))))) := by unfold pkBytes groupB rowB; simp only [List.append_assoc, List.append_nil]
  rw [e]
  unfold parsePk
  simp only [tkO_app hS, tkR_app hS, tkB_app hS, tkO_app (be_len _ 4), tkR_app (be_len _ 4), tkB_app (be_len _ 4), tkO_app (be_len _ 1), tkR_app (be_len _ 1), tkB_app (be_len _ 1), tkO_app (be_len _ 2), tkR_app (be_len _ 2), tkB_app (be_len _ 2),
    beVal_be_lt (show E < 256 ^ 4 from hE), beVal_be_lt (show F < 256 ^ 1 from hF), beVal_be_lt (show N < 256 ^ 4 from hN), beVal_be_lt (show T.length < 256 ^ 2 from hT), tkO_app (rfl : T.length = T.length), tkR_app (rfl : T.length = T.length), tkB_app (rfl : T.length = T.length)]
theorem good_put (S : List (BitVec 8)) (E F N : Nat) (T : List (BitVec 8)) (hS : S.length = 32) (hE : E < 4294967296) (hF : F < 256) (hN : N < 4294967296) (hT : T.length < 65536) (hb : pkBad E F N T.length = false) : goodPk (pkBytes S E F N T) = true := by
  unfold goodPk
  rw [parse_put S E F N T hS hE hF hN hT]
  unfold pkGood
  simp [hb]
end Go.Proofs.Ytloglpamnalmeaa
