/- the walk of KdfBegins. -/
import Derived.Test.YtgeighnfgniamaaExpBad
import Derived.Test.YtgeighnfgniamaaAlive02
import Derived.Test.YtgeighnfgniamaaNum
import Derived.Test.YtgeighnfgniamaaOpenS
namespace Go.Proofs.Ytgeighnfgniamaa
open Go.RowKit Go.ChangeShapes Go.WideShapes Go.ChangeAt
set_option linter.unusedVariables false
set_option linter.unusedSimpArgs false
attribute [local go_sem] Oper.semAt_some

set_option maxRecDepth 100000 in
theorem open_longer {H : Type} {enc : TypeId × Value → H} {w : World} {base : Nat} {spare : Nat → Bool} {held : Bool} {r : Reach} {b0 : Nat} {v : Value} {d : DataW H} {p : List MemPlace} (hv : Value.okWide Try.prog w r b0 50 v)
    (h : DataW.Trod enc Try.prog w base spare held 50 v d p) :
    ∃ (A : Option Addr) (n c : Nat) (xs : List (BitVec 8)) (T : Option Addr) (m d : Nat) (ys : List (BitVec 8)) (N M : Int), v = .agg #[.slice A n c, .slice T m d, .int .i64 N, .int .i64 M] ∧
      Rd b8 w w.heap.size A xs ∧ xs.length = n ∧ n ≤ c ∧ c ≤ maxLen ∧ Rd b8 w w.heap.size T ys ∧ ys.length = m ∧ m ≤ d ∧ d ≤ maxLen := by
  obtain ⟨cs, rfl, hsz⟩ := okWide_struct Try.underlying50 hv
  obtain ⟨fuel, hf⟩ := h
  obtain ⟨y0, y1, y2, y3, k, -, hl, h0, h1, h2, h3⟩ := Joins.trod_struct4 Try.underlying50 hf
  obtain ⟨L, rfl⟩ : ∃ L : List Value, cs = L.toArray := ⟨cs.toList, by simp⟩
  have hl4 : L.length = 4 := hl
  obtain ⟨A, n, c, e1⟩ := slice_cell Try.underlying22 h0
  obtain ⟨T, m, d, e2⟩ := slice_cell Try.underlying22 h1
  obtain ⟨N, e3, -, wf3⟩ := DataW.trod_int Try.underlying3 h2
  obtain ⟨M, e4, -, wf4⟩ := DataW.trod_int Try.underlying3 h3
  rw [e1] at h0
  rw [e2] at h1
  obtain ⟨xs, rd1, ln1, le1, mx1⟩ := open_bytes Try.underlying22 Try.underlying5 (by kernel_rfl) h0
  obtain ⟨ys, rd3, ln3, le3, mx3⟩ := open_bytes Try.underlying22 Try.underlying5 (by kernel_rfl) h1
  refine ⟨A, n, c, xs, T, m, d, ys, N, M, ?_, rd1, ln1, le1, mx1, rd3, ln3, le3, mx3⟩
  have q0 : List.take (Try.prog.cellsOf 22) (List.drop 0 L) = [.slice A n c] := e1
  have q1 : List.take (Try.prog.cellsOf 22) (List.drop 1 L) = [.slice T m d] := e2
  have q2 : List.take (Try.prog.cellsOf 3) (List.drop 2 L) = [.int .i64 N] := e3
  have q3 : List.take (Try.prog.cellsOf 3) (List.drop 3 L) = [.int .i64 M] := e4
  rw [show Try.prog.cellsOf 22 = 1 by kernel_rfl] at q0 q1
  rw [show Try.prog.cellsOf 3 = 1 by kernel_rfl] at q2 q3
  have g0 := cell_of_take q0
  have g1 := cell_of_take q1
  have g2 := cell_of_take q2
  have g3 := cell_of_take q3
  match L, hl4 with
  | [x0, x1, x2, x3], _ => simp at g0 g1 g2 g3; subst g0 g1 g2 g3; rfl
set_option maxRecDepth 100000 in
set_option maxHeartbeats 4000000 in
theorem begins_any (A1 : Option Addr) (n1 c1 : Nat) (xs : List (BitVec 8)) {W : World} {B : Nat} (hr1 : Rd b8 W B A1 xs) (hB : B ≤ W.heap.size) (hn1 : xs.length = n1)
    (A2 : Option Addr) (n2 c2 : Nat) (ys : List (BitVec 8)) (hr2 : Rd b8 W B A2 ys) (hn2 : ys.length = n2) (z u : Int) :
    Calls Try.prog 30 #[.slice A1 n1 c1, .slice A2 n2 c2, .int .i64 z, .int .i64 u] W fun e w' => e = .returned (.bool true) ∧ Below W.heap.size W w' := by
  have H1 := Lib.hid hn1
  have H2 := Lib.hid hn2
  have R1 := Lib.hid (hr1.more hB)
  have R2 := Lib.hid (hr2.more hB)
  clear hn1 hn2 hr1 hr2
  by_cases k1 : (n1 : Int) > 1000
  ·
    go_enter Try.func30, Try.ntmps30
    go_wp2_with fail
    refine (alive02_any _).mono ?_
    rintro e w1 ⟨rfl, hb1⟩
    go_wp2_with fail
    go_ret
    exact ⟨rfl, hb1⟩
  by_cases k2 : (n2 : Int) > 1000
  ·
    go_enter Try.func30, Try.ntmps30
    go_wp2_with fail
    refine (alive02_any _).mono ?_
    rintro e w1 ⟨rfl, hb1⟩
    go_wp2_with fail
    go_ret
    exact ⟨rfl, hb1⟩
  by_cases k3 : z < 0
  ·
    go_enter Try.func30, Try.ntmps30
    go_wp2_with fail
    refine (alive02_any _).mono ?_
    rintro e w1 ⟨rfl, hb1⟩
    go_wp2_with fail
    go_ret
    exact ⟨rfl, hb1⟩
  by_cases k4 : u < z
  ·
    go_enter Try.func30, Try.ntmps30
    go_wp2_with fail
    refine (alive02_any _).mono ?_
    rintro e w1 ⟨rfl, hb1⟩
    go_wp2_with fail
    go_ret
    exact ⟨rfl, hb1⟩
  by_cases k5 : u > 3000
  ·
    go_enter Try.func30, Try.ntmps30
    go_wp2_with fail
    refine (alive02_any _).mono ?_
    rintro e w1 ⟨rfl, hb1⟩
    go_wp2_with fail
    go_ret
    exact ⟨rfl, hb1⟩
  have m1 : n1 ≤ 1000 := by omega
  have m2 : n2 ≤ 1000 := by omega
  obtain ⟨N, rfl⟩ : ∃ N : Nat, z = (N : Int) := ⟨z.toNat, by omega⟩
  obtain ⟨M, rfl⟩ : ∃ M : Nat, u = (M : Int) := ⟨u.toNat, by omega⟩
  have m3 : N ≤ M := by omega
  have m4 : M ≤ 3000 := by omega
  obtain ⟨X, hX⟩ : ∃ X, X = expV xs ys N := ⟨_, rfl⟩
  obtain ⟨Y, hY⟩ : ∃ Y, Y = expV xs ys M := ⟨_, rfl⟩
  have HXl := Lib.hid (show X.length = N by rw [hX]; exact expV_len _ _ _ (by omega))
  have HYl := Lib.hid (show Y.length = M by rw [hY]; exact expV_len _ _ _ (by omega))
  have HXY := Lib.hid (show Y.take N = X by rw [hX, hY]; unfold expV; rw [List.take_take, Nat.min_eq_left m3])
  have HE := Lib.hid (show ∀ w : World, Below W.heap.size W w → Calls Try.prog 25 #[.slice A1 n1 c1, .slice A2 n2 c2, .int .i64 (N : Int)] w fun e w' => ∃ g, e = .returned (.tuple #[.slice (some ⟨g, 0, none⟩) N N, .nilIface]) ∧ Own b8 w' w.heap.size 5 (.slice (some ⟨g, 0, none⟩) N N) X ∧ Below w.heap.size w w' from fun w hb => by
    rw [hX]; exact expand_any w W.heap.size n1 c1 W.heap.size n2 c2 N _ _ xs ys (R1.out.below hb) hb.size H1.out.symm (R2.out.below hb) hb.size H2.out.symm (by omega) (by omega) (by omega))
  have HF := Lib.hid (show ∀ w : World, Below W.heap.size W w → Calls Try.prog 25 #[.slice A1 n1 c1, .slice A2 n2 c2, .int .i64 (M : Int)] w fun e w' => ∃ g, e = .returned (.tuple #[.slice (some ⟨g, 0, none⟩) M M, .nilIface]) ∧ Own b8 w' w.heap.size 5 (.slice (some ⟨g, 0, none⟩) M M) Y ∧ Below w.heap.size w w' from fun w hb => by
    rw [hY]; exact expand_any w W.heap.size n1 c1 W.heap.size n2 c2 M _ _ xs ys (R1.out.below hb) hb.size H1.out.symm (R2.out.below hb) hb.size H2.out.symm (by omega) (by omega) (by omega))
  clear hX hY
  go_enter Try.func30, Try.ntmps30
  go_wp2_with fail
  refine (alive02_any _).mono ?_
  rintro e w1 ⟨rfl, hb1⟩
  have HB1 := Lib.hid hb1
  clear hb1
  go_wp2_with fail
  refine (HE.out w1 HB1.out).mono ?_
  rintro e w2 ⟨g2, rfl, ho2, hb2⟩
  have HB2 := Lib.hid (HB1.out.trans (hb2.mono HB1.out.size))
  have HO2 := Lib.hid ho2
  clear ho2 hb2
  go_wp2_with fail
  refine (HF.out w2 HB2.out).mono ?_
  rintro e w3 ⟨g3, rfl, ho3, hb3⟩
  have HB3 := Lib.hid (HB2.out.trans (hb3.mono HB2.out.size))
  have HO2' := Lib.hid (HO2.out.below hb3 (Nat.le_refl _))
  have HO3 := Lib.hid ho3
  clear ho3 hb3
  go_wp2_with fail
  refine (same_any N M HO2'.out.rd (HO3.out.rd.take N) HXl.out (by rw [List.length_take, HYl.out]; omega)).mono ?_
  rintro e w' ⟨rfl, rfl⟩
  rw [HXY.out, beq_self_eq_true]
  go_wp2_with fail
  go_ret
  exact ⟨rfl, HB3.out⟩
set_option maxRecDepth 100000 in
theorem kdfBegins_walk (A1 : Option Addr) (n1 c1 : Nat) (xs : List (BitVec 8)) (A2 : Option Addr) (n2 c2 : Nat) (ys : List (BitVec 8)) (z u : Int) {W : World} (hr1 : Rd b8 W W.heap.size A1 xs) (hn1 : xs.length = n1)
    (hr2 : Rd b8 W W.heap.size A2 ys) (hn2 : ys.length = n2) :
    Calls Try.prog 10 #[.agg #[.slice A1 n1 c1, .slice A2 n2 c2, .int .i64 z, .int .i64 u]] W fun e w' => e = .returned (.bool true) ∧ Below W.heap.size W w' := by
  have HX := Lib.hid ((Below.refl W.heap.size W).alloc (Nat.le_refl _) (.cells #[.slice A1 n1 c1, .slice A2 n2 c2, .int .i64 z, .int .i64 u] 50))
  have HC := Lib.hid (begins_any A1 n1 c1 xs (hr1.alloc (Nat.le_refl _) (.cells #[.slice A1 n1 c1, .slice A2 n2 c2, .int .i64 z, .int .i64 u] 50)) (by simp) hn1 A2 n2 c2 ys (hr2.alloc (Nat.le_refl _) _) hn2 z u)
  clear hr1 hr2 hn1 hn2
  go_enter Try.func10, Try.ntmps10
  go_wp2_with fail
  refine HC.out.mono ?_
  rintro e w' ⟨rfl, hb⟩
  go_wp2_with fail
  go_ret
  exact ⟨rfl, HX.out.trans (hb.mono (by simp))⟩
end Go.Proofs.Ytgeighnfgniamaa
