/- CONTRACTS: wire.blank, burrowref09.Zero, burrowlaw09.node. -/
import Derived.Test.YtloglpamnalmeaaNodeA
import Derived.Test.YtloglpamnalmeaaBase
namespace Go.Proofs.Ytloglpamnalmeaa
open Go.RowKit
set_option linter.unusedVariables false
set_option linter.unusedSimpArgs false

set_option maxRecDepth 100000 in
set_option maxHeartbeats 2000000 in
theorem blank_any (x : NodeD) (hx : x.Ok) (A : Option Addr) (c : Nat) (w : World) : Calls Try.prog 101 #[.agg (nodeC x A c).toArray] w fun e w' => e = .returned (.bool (zeroN x)) ∧ Below w.heap.size w w' := by
  have HX := Lib.hid hx
  have HBx := Lib.hid (show Blk (w.alloc (.cells (nodeC x A c).toArray 50)) w.heap.size 50 (nodeC x A c) from Blk.new w _ _)
  have HB := Lib.hid ((Below.refl w.heap.size w).alloc (Nat.le_refl _) (.cells (nodeC x A c).toArray 50))
  have k0 := nodeC_used HBx.out
  have k1 := nodeC_name HBx.out
  have k98 := nodeC_um HBx.out hx
  obtain ⟨u, hu⟩ : ∃ u, u = x.used := ⟨_, rfl⟩
  obtain ⟨bn, hbn⟩ : ∃ b, b = (x.name == 0) := ⟨_, rfl⟩
  obtain ⟨bk, hbk⟩ : ∃ b, b = (x.key == zero32) := ⟨_, rfl⟩
  obtain ⟨bs, hbs⟩ : ∃ b, b = (x.sign == zero32) := ⟨_, rfl⟩
  obtain ⟨bp, hbp⟩ : ∃ b, b = (x.par == zero32) := ⟨_, rfl⟩
  have hz : zeroN x = (!u && bn && bk && bs && bp && (x.um.length == 0)) := by unfold zeroN; rw [hu, hbn, hbk, hbs, hbp]
  have ek : ∀ w, (binOp .eql 47 (.agg (x.key.map b8).toArray) (.agg (zero32.map b8).toArray)).run Try.prog w = .ok (.bool bk) w := fun w => by
    rw [hbk]; exact run_eql_b8 w 47 5 32 Try.underlying47 Try.underlying5 (fun _ => by kernel_rfl) _ _ hx.key zero32_len
  have es : ∀ w, (binOp .eql 47 (.agg (x.sign.map b8).toArray) (.agg (zero32.map b8).toArray)).run Try.prog w = .ok (.bool bs) w := fun w => by
    rw [hbs]; exact run_eql_b8 w 47 5 32 Try.underlying47 Try.underlying5 (fun _ => by kernel_rfl) _ _ hx.sign zero32_len
  have ep : ∀ w, (binOp .eql 23 (.agg (x.par.map b8).toArray) (.agg (zero32.map b8).toArray)).run Try.prog w = .ok (.bool bp) w := fun w => by
    rw [hbp]; exact run_eql_b8 w 23 5 32 Try.underlying23 Try.underlying5 (fun _ => by kernel_rfl) _ _ hx.par zero32_len
  have hbn' : (x.name == 0) = bn := hbn.symm
  rw [← hu] at k0
  rw [hz]
  clear hx hu hbn hbk hbs hbp hz
  obtain ⟨n, hn⟩ : ∃ n, n = x.um.length := ⟨_, rfl⟩
  rw [← hn] at k98 ⊢
  clear hn
  cases u with
  | true =>
    simp only [Bool.not_true, Bool.false_and]
    go_enter Try.func101, Try.ntmps101
    go_wp2_with (first
      | (refine wpList_load_midw (by first | rfl | go_simp) 47 (.tmp 12) rfl w.heap.size 2 rfl (x.key.map b8) _ (nodeC_key HBx.out HX.out) Try.underlying47 rfl (by rw [List.length_map, HX.out.key]; exact infoKeyN) ?_)
      | (refine wpList_load_midw (by first | rfl | go_simp) 47 (.tmp 18) rfl w.heap.size 34 rfl (x.sign.map b8) _ (nodeC_sign HBx.out HX.out) Try.underlying47 rfl (by rw [List.length_map, HX.out.sign]; exact infoKeyN) ?_)
      | (refine wpList_load_midw (by first | rfl | go_simp) 23 (.tmp 24) rfl w.heap.size 66 rfl (x.par.map b8) _ (nodeC_par HBx.out HX.out) Try.underlying23 rfl (by rw [List.length_map, HX.out.par]; exact infoSum) ?_)
      | (refine wpList_build_atw (by first | rfl | go_simp) 47 [] rfl _ [] rfl built_key ?_)
      | (refine wpList_build_atw (by first | rfl | go_simp) 23 [] rfl _ [] rfl built_sum ?_))
    go_ret
    exact ⟨rfl, HB.out⟩
  | false =>
    cases bn with
    | false =>
      simp only [Bool.not_false, Bool.true_and, Bool.false_and]
      go_enter Try.func101, Try.ntmps101
      go_wp2_with (first
        | (refine wpList_load_midw (by first | rfl | go_simp) 47 (.tmp 12) rfl w.heap.size 2 rfl (x.key.map b8) _ (nodeC_key HBx.out HX.out) Try.underlying47 rfl (by rw [List.length_map, HX.out.key]; exact infoKeyN) ?_)
        | (refine wpList_load_midw (by first | rfl | go_simp) 47 (.tmp 18) rfl w.heap.size 34 rfl (x.sign.map b8) _ (nodeC_sign HBx.out HX.out) Try.underlying47 rfl (by rw [List.length_map, HX.out.sign]; exact infoKeyN) ?_)
        | (refine wpList_load_midw (by first | rfl | go_simp) 23 (.tmp 24) rfl w.heap.size 66 rfl (x.par.map b8) _ (nodeC_par HBx.out HX.out) Try.underlying23 rfl (by rw [List.length_map, HX.out.par]; exact infoSum) ?_)
        | (refine wpList_build_atw (by first | rfl | go_simp) 47 [] rfl _ [] rfl built_key ?_)
        | (refine wpList_build_atw (by first | rfl | go_simp) 23 [] rfl _ [] rfl built_sum ?_))
      go_ret
      exact ⟨rfl, HB.out⟩
    | true =>
      cases bk with
      | false =>
        simp only [Bool.not_false, Bool.true_and, Bool.false_and]
        go_enter Try.func101, Try.ntmps101
        go_wp2_with (first
          | (refine wpList_load_midw (by first | rfl | go_simp) 47 (.tmp 12) rfl w.heap.size 2 rfl (x.key.map b8) _ (nodeC_key HBx.out HX.out) Try.underlying47 rfl (by rw [List.length_map, HX.out.key]; exact infoKeyN) ?_)
          | (refine wpList_load_midw (by first | rfl | go_simp) 47 (.tmp 18) rfl w.heap.size 34 rfl (x.sign.map b8) _ (nodeC_sign HBx.out HX.out) Try.underlying47 rfl (by rw [List.length_map, HX.out.sign]; exact infoKeyN) ?_)
          | (refine wpList_load_midw (by first | rfl | go_simp) 23 (.tmp 24) rfl w.heap.size 66 rfl (x.par.map b8) _ (nodeC_par HBx.out HX.out) Try.underlying23 rfl (by rw [List.length_map, HX.out.par]; exact infoSum) ?_)
          | (refine wpList_build_atw (by first | rfl | go_simp) 47 [] rfl _ [] rfl built_key ?_)
          | (refine wpList_build_atw (by first | rfl | go_simp) 23 [] rfl _ [] rfl built_sum ?_))
        go_ret
        exact ⟨rfl, HB.out⟩
      | true =>
        cases bs with
        | false =>
          simp only [Bool.not_false, Bool.true_and, Bool.false_and]
          go_enter Try.func101, Try.ntmps101
          go_wp2_with (first
            | (refine wpList_load_midw (by first | rfl | go_simp) 47 (.tmp 12) rfl w.heap.size 2 rfl (x.key.map b8) _ (nodeC_key HBx.out HX.out) Try.underlying47 rfl (by rw [List.length_map, HX.out.key]; exact infoKeyN) ?_)
            | (refine wpList_load_midw (by first | rfl | go_simp) 47 (.tmp 18) rfl w.heap.size 34 rfl (x.sign.map b8) _ (nodeC_sign HBx.out HX.out) Try.underlying47 rfl (by rw [List.length_map, HX.out.sign]; exact infoKeyN) ?_)
            | (refine wpList_load_midw (by first | rfl | go_simp) 23 (.tmp 24) rfl w.heap.size 66 rfl (x.par.map b8) _ (nodeC_par HBx.out HX.out) Try.underlying23 rfl (by rw [List.length_map, HX.out.par]; exact infoSum) ?_)
            | (refine wpList_build_atw (by first | rfl | go_simp) 47 [] rfl _ [] rfl built_key ?_)
            | (refine wpList_build_atw (by first | rfl | go_simp) 23 [] rfl _ [] rfl built_sum ?_))
          go_ret
          exact ⟨rfl, HB.out⟩
        | true =>
          cases bp with
          | false =>
            simp only [Bool.not_false, Bool.true_and, Bool.false_and]
            go_enter Try.func101, Try.ntmps101
            go_wp2_with (first
              | (refine wpList_load_midw (by first | rfl | go_simp) 47 (.tmp 12) rfl w.heap.size 2 rfl (x.key.map b8) _ (nodeC_key HBx.out HX.out) Try.underlying47 rfl (by rw [List.length_map, HX.out.key]; exact infoKeyN) ?_)
              | (refine wpList_load_midw (by first | rfl | go_simp) 47 (.tmp 18) rfl w.heap.size 34 rfl (x.sign.map b8) _ (nodeC_sign HBx.out HX.out) Try.underlying47 rfl (by rw [List.length_map, HX.out.sign]; exact infoKeyN) ?_)
              | (refine wpList_load_midw (by first | rfl | go_simp) 23 (.tmp 24) rfl w.heap.size 66 rfl (x.par.map b8) _ (nodeC_par HBx.out HX.out) Try.underlying23 rfl (by rw [List.length_map, HX.out.par]; exact infoSum) ?_)
              | (refine wpList_build_atw (by first | rfl | go_simp) 47 [] rfl _ [] rfl built_key ?_)
              | (refine wpList_build_atw (by first | rfl | go_simp) 23 [] rfl _ [] rfl built_sum ?_))
            go_ret
            exact ⟨rfl, HB.out⟩
          | true =>
            by_cases hn0 : n = 0
            · subst hn0
              simp only [Bool.not_false, Bool.true_and, beq_self_eq_true]
              go_enter Try.func101, Try.ntmps101
              go_wp2_with (first
                | (refine wpList_load_midw (by first | rfl | go_simp) 47 (.tmp 12) rfl w.heap.size 2 rfl (x.key.map b8) _ (nodeC_key HBx.out HX.out) Try.underlying47 rfl (by rw [List.length_map, HX.out.key]; exact infoKeyN) ?_)
                | (refine wpList_load_midw (by first | rfl | go_simp) 47 (.tmp 18) rfl w.heap.size 34 rfl (x.sign.map b8) _ (nodeC_sign HBx.out HX.out) Try.underlying47 rfl (by rw [List.length_map, HX.out.sign]; exact infoKeyN) ?_)
                | (refine wpList_load_midw (by first | rfl | go_simp) 23 (.tmp 24) rfl w.heap.size 66 rfl (x.par.map b8) _ (nodeC_par HBx.out HX.out) Try.underlying23 rfl (by rw [List.length_map, HX.out.par]; exact infoSum) ?_)
                | (refine wpList_build_atw (by first | rfl | go_simp) 47 [] rfl _ [] rfl built_key ?_)
                | (refine wpList_build_atw (by first | rfl | go_simp) 23 [] rfl _ [] rfl built_sum ?_))
              go_ret
              exact ⟨rfl, HB.out⟩
            · have h1 : (n == 0) = false := by rw [beq_eq_false_iff_ne]; exact hn0
              have h2 : ((n : Int) == 0) = false := by rw [beq_eq_false_iff_ne]; omega
              simp only [Bool.not_false, Bool.true_and, h1]
              clear h1 hn0
              go_enter Try.func101, Try.ntmps101
              go_wp2_with (first
                | (refine wpList_load_midw (by first | rfl | go_simp) 47 (.tmp 12) rfl w.heap.size 2 rfl (x.key.map b8) _ (nodeC_key HBx.out HX.out) Try.underlying47 rfl (by rw [List.length_map, HX.out.key]; exact infoKeyN) ?_)
                | (refine wpList_load_midw (by first | rfl | go_simp) 47 (.tmp 18) rfl w.heap.size 34 rfl (x.sign.map b8) _ (nodeC_sign HBx.out HX.out) Try.underlying47 rfl (by rw [List.length_map, HX.out.sign]; exact infoKeyN) ?_)
                | (refine wpList_load_midw (by first | rfl | go_simp) 23 (.tmp 24) rfl w.heap.size 66 rfl (x.par.map b8) _ (nodeC_par HBx.out HX.out) Try.underlying23 rfl (by rw [List.length_map, HX.out.par]; exact infoSum) ?_)
                | (refine wpList_build_atw (by first | rfl | go_simp) 47 [] rfl _ [] rfl built_key ?_)
                | (refine wpList_build_atw (by first | rfl | go_simp) 23 [] rfl _ [] rfl built_sum ?_))
              go_ret
              exact ⟨rfl, HB.out⟩
set_option maxRecDepth 100000 in
set_option maxHeartbeats 2000000 in
theorem zero9_any (x : NodeD) (hx : x.Ok) (A : Option Addr) (c : Nat) (w : World) : Calls Try.prog 104 #[.agg (nodeC x A c).toArray] w fun e w' => e = .returned (.bool (zeroN x)) ∧ Below w.heap.size w w' := by
  have HX := Lib.hid hx
  have HBx := Lib.hid (show Blk (w.alloc (.cells (nodeC x A c).toArray 50)) w.heap.size 50 (nodeC x A c) from Blk.new w _ _)
  have HB := Lib.hid ((Below.refl w.heap.size w).alloc (Nat.le_refl _) (.cells (nodeC x A c).toArray 50))
  have k0 := nodeC_used HBx.out
  have k1 := nodeC_name HBx.out
  have k98 := nodeC_um HBx.out hx
  obtain ⟨u, hu⟩ : ∃ u, u = x.used := ⟨_, rfl⟩
  obtain ⟨bn, hbn⟩ : ∃ b, b = (x.name == 0) := ⟨_, rfl⟩
  obtain ⟨bk, hbk⟩ : ∃ b, b = (x.key == zero32) := ⟨_, rfl⟩
  obtain ⟨bs, hbs⟩ : ∃ b, b = (x.sign == zero32) := ⟨_, rfl⟩
  obtain ⟨bp, hbp⟩ : ∃ b, b = (x.par == zero32) := ⟨_, rfl⟩
  have hz : zeroN x = (!u && bn && bk && bs && bp && (x.um.length == 0)) := by unfold zeroN; rw [hu, hbn, hbk, hbs, hbp]
  have ek : ∀ w, (binOp .eql 47 (.agg (x.key.map b8).toArray) (.agg (zero32.map b8).toArray)).run Try.prog w = .ok (.bool bk) w := fun w => by
    rw [hbk]; exact run_eql_b8 w 47 5 32 Try.underlying47 Try.underlying5 (fun _ => by kernel_rfl) _ _ hx.key zero32_len
  have es : ∀ w, (binOp .eql 47 (.agg (x.sign.map b8).toArray) (.agg (zero32.map b8).toArray)).run Try.prog w = .ok (.bool bs) w := fun w => by
    rw [hbs]; exact run_eql_b8 w 47 5 32 Try.underlying47 Try.underlying5 (fun _ => by kernel_rfl) _ _ hx.sign zero32_len
  have ep : ∀ w, (binOp .eql 23 (.agg (x.par.map b8).toArray) (.agg (zero32.map b8).toArray)).run Try.prog w = .ok (.bool bp) w := fun w => by
    rw [hbp]; exact run_eql_b8 w 23 5 32 Try.underlying23 Try.underlying5 (fun _ => by kernel_rfl) _ _ hx.par zero32_len
  have hbn' : (x.name == 0) = bn := hbn.symm
  rw [← hu] at k0
  rw [hz]
  clear hx hu hbn hbk hbs hbp hz
  obtain ⟨n, hn⟩ : ∃ n, n = x.um.length := ⟨_, rfl⟩
  rw [← hn] at k98 ⊢
  clear hn
  cases u with
  | true =>
    simp only [Bool.not_true, Bool.false_and]
    go_enter Try.func104, Try.ntmps104
    go_wp2_with (first
      | (refine wpList_load_midw (by first | rfl | go_simp) 47 (.tmp 12) rfl w.heap.size 2 rfl (x.key.map b8) _ (nodeC_key HBx.out HX.out) Try.underlying47 rfl (by rw [List.length_map, HX.out.key]; exact infoKeyN) ?_)
      | (refine wpList_load_midw (by first | rfl | go_simp) 47 (.tmp 18) rfl w.heap.size 34 rfl (x.sign.map b8) _ (nodeC_sign HBx.out HX.out) Try.underlying47 rfl (by rw [List.length_map, HX.out.sign]; exact infoKeyN) ?_)
      | (refine wpList_load_midw (by first | rfl | go_simp) 23 (.tmp 24) rfl w.heap.size 66 rfl (x.par.map b8) _ (nodeC_par HBx.out HX.out) Try.underlying23 rfl (by rw [List.length_map, HX.out.par]; exact infoSum) ?_)
      | (refine wpList_build_atw (by first | rfl | go_simp) 47 [] rfl _ [] rfl built_key ?_)
      | (refine wpList_build_atw (by first | rfl | go_simp) 23 [] rfl _ [] rfl built_sum ?_))
    go_ret
    exact ⟨rfl, HB.out⟩
  | false =>
    cases bn with
    | false =>
      simp only [Bool.not_false, Bool.true_and, Bool.false_and]
      go_enter Try.func104, Try.ntmps104
      go_wp2_with (first
        | (refine wpList_load_midw (by first | rfl | go_simp) 47 (.tmp 12) rfl w.heap.size 2 rfl (x.key.map b8) _ (nodeC_key HBx.out HX.out) Try.underlying47 rfl (by rw [List.length_map, HX.out.key]; exact infoKeyN) ?_)
        | (refine wpList_load_midw (by first | rfl | go_simp) 47 (.tmp 18) rfl w.heap.size 34 rfl (x.sign.map b8) _ (nodeC_sign HBx.out HX.out) Try.underlying47 rfl (by rw [List.length_map, HX.out.sign]; exact infoKeyN) ?_)
        | (refine wpList_load_midw (by first | rfl | go_simp) 23 (.tmp 24) rfl w.heap.size 66 rfl (x.par.map b8) _ (nodeC_par HBx.out HX.out) Try.underlying23 rfl (by rw [List.length_map, HX.out.par]; exact infoSum) ?_)
        | (refine wpList_build_atw (by first | rfl | go_simp) 47 [] rfl _ [] rfl built_key ?_)
        | (refine wpList_build_atw (by first | rfl | go_simp) 23 [] rfl _ [] rfl built_sum ?_))
      go_ret
      exact ⟨rfl, HB.out⟩
    | true =>
      cases bk with
      | false =>
        simp only [Bool.not_false, Bool.true_and, Bool.false_and]
        go_enter Try.func104, Try.ntmps104
        go_wp2_with (first
          | (refine wpList_load_midw (by first | rfl | go_simp) 47 (.tmp 12) rfl w.heap.size 2 rfl (x.key.map b8) _ (nodeC_key HBx.out HX.out) Try.underlying47 rfl (by rw [List.length_map, HX.out.key]; exact infoKeyN) ?_)
          | (refine wpList_load_midw (by first | rfl | go_simp) 47 (.tmp 18) rfl w.heap.size 34 rfl (x.sign.map b8) _ (nodeC_sign HBx.out HX.out) Try.underlying47 rfl (by rw [List.length_map, HX.out.sign]; exact infoKeyN) ?_)
          | (refine wpList_load_midw (by first | rfl | go_simp) 23 (.tmp 24) rfl w.heap.size 66 rfl (x.par.map b8) _ (nodeC_par HBx.out HX.out) Try.underlying23 rfl (by rw [List.length_map, HX.out.par]; exact infoSum) ?_)
          | (refine wpList_build_atw (by first | rfl | go_simp) 47 [] rfl _ [] rfl built_key ?_)
          | (refine wpList_build_atw (by first | rfl | go_simp) 23 [] rfl _ [] rfl built_sum ?_))
        go_ret
        exact ⟨rfl, HB.out⟩
      | true =>
        cases bs with
        | false =>
          simp only [Bool.not_false, Bool.true_and, Bool.false_and]
          go_enter Try.func104, Try.ntmps104
          go_wp2_with (first
            | (refine wpList_load_midw (by first | rfl | go_simp) 47 (.tmp 12) rfl w.heap.size 2 rfl (x.key.map b8) _ (nodeC_key HBx.out HX.out) Try.underlying47 rfl (by rw [List.length_map, HX.out.key]; exact infoKeyN) ?_)
            | (refine wpList_load_midw (by first | rfl | go_simp) 47 (.tmp 18) rfl w.heap.size 34 rfl (x.sign.map b8) _ (nodeC_sign HBx.out HX.out) Try.underlying47 rfl (by rw [List.length_map, HX.out.sign]; exact infoKeyN) ?_)
            | (refine wpList_load_midw (by first | rfl | go_simp) 23 (.tmp 24) rfl w.heap.size 66 rfl (x.par.map b8) _ (nodeC_par HBx.out HX.out) Try.underlying23 rfl (by rw [List.length_map, HX.out.par]; exact infoSum) ?_)
            | (refine wpList_build_atw (by first | rfl | go_simp) 47 [] rfl _ [] rfl built_key ?_)
            | (refine wpList_build_atw (by first | rfl | go_simp) 23 [] rfl _ [] rfl built_sum ?_))
          go_ret
          exact ⟨rfl, HB.out⟩
        | true =>
          cases bp with
          | false =>
            simp only [Bool.not_false, Bool.true_and, Bool.false_and]
            go_enter Try.func104, Try.ntmps104
            go_wp2_with (first
              | (refine wpList_load_midw (by first | rfl | go_simp) 47 (.tmp 12) rfl w.heap.size 2 rfl (x.key.map b8) _ (nodeC_key HBx.out HX.out) Try.underlying47 rfl (by rw [List.length_map, HX.out.key]; exact infoKeyN) ?_)
              | (refine wpList_load_midw (by first | rfl | go_simp) 47 (.tmp 18) rfl w.heap.size 34 rfl (x.sign.map b8) _ (nodeC_sign HBx.out HX.out) Try.underlying47 rfl (by rw [List.length_map, HX.out.sign]; exact infoKeyN) ?_)
              | (refine wpList_load_midw (by first | rfl | go_simp) 23 (.tmp 24) rfl w.heap.size 66 rfl (x.par.map b8) _ (nodeC_par HBx.out HX.out) Try.underlying23 rfl (by rw [List.length_map, HX.out.par]; exact infoSum) ?_)
              | (refine wpList_build_atw (by first | rfl | go_simp) 47 [] rfl _ [] rfl built_key ?_)
              | (refine wpList_build_atw (by first | rfl | go_simp) 23 [] rfl _ [] rfl built_sum ?_))
            go_ret
            exact ⟨rfl, HB.out⟩
          | true =>
            by_cases hn0 : n = 0
            · subst hn0
              simp only [Bool.not_false, Bool.true_and, beq_self_eq_true]
              go_enter Try.func104, Try.ntmps104
              go_wp2_with (first
                | (refine wpList_load_midw (by first | rfl | go_simp) 47 (.tmp 12) rfl w.heap.size 2 rfl (x.key.map b8) _ (nodeC_key HBx.out HX.out) Try.underlying47 rfl (by rw [List.length_map, HX.out.key]; exact infoKeyN) ?_)
                | (refine wpList_load_midw (by first | rfl | go_simp) 47 (.tmp 18) rfl w.heap.size 34 rfl (x.sign.map b8) _ (nodeC_sign HBx.out HX.out) Try.underlying47 rfl (by rw [List.length_map, HX.out.sign]; exact infoKeyN) ?_)
                | (refine wpList_load_midw (by first | rfl | go_simp) 23 (.tmp 24) rfl w.heap.size 66 rfl (x.par.map b8) _ (nodeC_par HBx.out HX.out) Try.underlying23 rfl (by rw [List.length_map, HX.out.par]; exact infoSum) ?_)
                | (refine wpList_build_atw (by first | rfl | go_simp) 47 [] rfl _ [] rfl built_key ?_)
                | (refine wpList_build_atw (by first | rfl | go_simp) 23 [] rfl _ [] rfl built_sum ?_))
              go_ret
              exact ⟨rfl, HB.out⟩
            · have h1 : (n == 0) = false := by rw [beq_eq_false_iff_ne]; exact hn0
              have h2 : ((n : Int) == 0) = false := by rw [beq_eq_false_iff_ne]; omega
              simp only [Bool.not_false, Bool.true_and, h1]
              clear h1 hn0
              go_enter Try.func104, Try.ntmps104
              go_wp2_with (first
                | (refine wpList_load_midw (by first | rfl | go_simp) 47 (.tmp 12) rfl w.heap.size 2 rfl (x.key.map b8) _ (nodeC_key HBx.out HX.out) Try.underlying47 rfl (by rw [List.length_map, HX.out.key]; exact infoKeyN) ?_)
                | (refine wpList_load_midw (by first | rfl | go_simp) 47 (.tmp 18) rfl w.heap.size 34 rfl (x.sign.map b8) _ (nodeC_sign HBx.out HX.out) Try.underlying47 rfl (by rw [List.length_map, HX.out.sign]; exact infoKeyN) ?_)
                | (refine wpList_load_midw (by first | rfl | go_simp) 23 (.tmp 24) rfl w.heap.size 66 rfl (x.par.map b8) _ (nodeC_par HBx.out HX.out) Try.underlying23 rfl (by rw [List.length_map, HX.out.par]; exact infoSum) ?_)
                | (refine wpList_build_atw (by first | rfl | go_simp) 47 [] rfl _ [] rfl built_key ?_)
                | (refine wpList_build_atw (by first | rfl | go_simp) 23 [] rfl _ [] rfl built_sum ?_))
              go_ret
              exact ⟨rfl, HB.out⟩

set_option maxRecDepth 100000 in
theorem lawNode_any (x : NodeD) (hx : x.Ok) (A : Option Addr) (c : Nat) (w : World) : Calls Try.prog 22 #[.agg (nodeC x A c).toArray] w fun e w' => e = .returned (.bool (decide ((x.um.length : Int) < 100))) ∧ Below w.heap.size w w' := by
  have HBx := Lib.hid (show Blk (w.alloc (.cells (nodeC x A c).toArray 50)) w.heap.size 50 (nodeC x A c) from Blk.new w _ _)
  have HB := Lib.hid ((Below.refl w.heap.size w).alloc (Nat.le_refl _) (.cells (nodeC x A c).toArray 50))
  have k98 := nodeC_um HBx.out hx
  obtain ⟨n, hn⟩ : ∃ n, n = x.um.length := ⟨_, rfl⟩
  rw [← hn] at k98 ⊢
  clear hx hn
  go_enter Try.func22, Try.ntmps22
  go_wp2
  go_ret
  exact ⟨rfl, HB.out⟩
end Go.Proofs.Ytloglpamnalmeaa
