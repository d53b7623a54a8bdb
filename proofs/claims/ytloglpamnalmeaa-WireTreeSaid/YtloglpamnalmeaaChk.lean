/- CONTRACTS: slices.Equal; whole blocks stored and loaded. -/
import Derived.Test.YtloglpamnalmeaaEyeB
import Derived.Laws.EntriesVeiled
namespace Go.Proofs.Ytloglpamnalmeaa
open Go.RowKit
set_option linter.unusedVariables false
set_option linter.unusedSimpArgs false

/-- a whole block is stored over -/
theorem wpList_store_blk {P : Program} {ops : Array Oper} {rest : List Oper} {op : Oper} {a : Act} {w : World} {Q : Exit → Act → World → Prop} (hgd : op.guard = none) (ty : TypeId) (x y : Operand) (ho : op.op = .store ty x y)
    (g : Nat) (hx : a.eval x = .pointer (some ⟨g, 0, none⟩)) (cs : List Value) (hy : a.eval y = .agg cs.toArray) (T : TypeId) (old : List Value) (hA : Blk w g T old) (hl : old.length = cs.length)
    (hi : (P.info? ty).map (·.size) = some cs.length) (h1 : ∀ u ∈ cs, u.oneCell' = true)
    (h : ∀ w', Blk w' g T cs → w.grownBy w' (some g) → wpList P ops Q rest (a.put op.dst undef) w') : wpList P ops Q (op :: rest) a w := by
  obtain ⟨h2, h3⟩ := arr_setCells (f := fun v : Value => v) cs [] old w hl (by simpa using hA.arr)
  rw [List.map_id'] at h2 h3
  refine wpList_store_mid hgd ty x y ho g 0 cs.toArray hx hy ?_ ?_ ?_ ?_
  · exact hA.arr.there (by simp [hl])
  · rw [hi]; simp
  · exact all_oneCell_toArray h1
  · simp only
    exact h _ (blk_arr h2) h3
/-- two results: a struct in its cell, and a slot -/
theorem results_blk_tmp {P : Program} {fn : Func} {p u : Tmp} {ty : TypeId} (h : fn.results = #[.cell p ty, .tmp u]) (tmps : Array Value) (w : World) (g : Nat) (T : TypeId) (cs : List Value) (d : TypeDesc) (v : Value)
    (hp : tmps.getD p undef = .pointer (some ⟨g, 0, none⟩)) (hv : tmps.getD u undef = v) (hA : Blk w g T cs) (hu : P.underlying ty = some d) (hd : d.isRow = true) (hi : (P.info? ty).map (·.size) = some cs.length) :
    (results fn tmps).run P w = .ok (.tuple #[.agg cs.toArray, v]) w := by
  have := results_arr_tmp (P := P) (f := fun v : Value => v) h tmps w g T cs d v hp hv hA.arr hu hd hi
  rwa [List.map_id'] at this

set_option maxRecDepth 100000 in
set_option maxHeartbeats 1000000 in
theorem equal_any {w : World} {B1 B2 : Nat} {A1 A2 : Option Addr} {n1 n2 c1 c2 : Nat} {xs ys : List (BitVec 8)} (h1 : Rd b8 w B1 A1 xs) (h2 : Rd b8 w B2 A2 ys) (hn1 : xs.length = n1) (hn2 : ys.length = n2) (hB1 : B1 ≤ w.heap.size) (hB2 : B2 ≤ w.heap.size) (hx : n1 ≤ 1000000000) :
    Calls Try.prog 100 #[.slice A1 n1 c1, .slice A2 n2 c2] w fun e w' => e = .returned (.bool (xs == ys)) ∧ Below w.heap.size w w' := by
  have H1 := Lib.hid h1
  have H2 := Lib.hid h2
  have N1 := Lib.hid hn1
  have N2 := Lib.hid hn2
  by_cases hl : n1 = n2
  · subst hl
    clear h1 h2 hn1 hn2
    obtain ⟨r, hr⟩ : ∃ r, r = (xs == ys) := ⟨_, rfl⟩
    rw [← hr]
    have Hr := Lib.hid hr
    clear hr
    go_enter Try.func100, Try.ntmps100
    go_wp2_with fail
    go_loopw [5, 13] (fun cv iv wr => ∃ k : Nat, k ≤ n1 ∧ iv = .int .i64 (k : Int) ∧ xs.take k = ys.take k ∧ Below w.heap.size w wr) (fun _ iv _ => n1 - (intOf iv).toNat)
    case atStart => exact ⟨0, by omega, rfl, rfl, Below.refl _ _⟩
    case round =>
      obtain ⟨k, hk, rfl, heq, hb⟩ := hrel
      by_cases hlt : k < n1
      · have hlt' : (k : Int) < (n1 : Int) := by omega
        obtain ⟨b1, o1, e1, hb1, hc1⟩ := (H1.out.below (hb.mono hB1)).at_ (k := k) (by rw [N1.out]; exact hlt)
        obtain ⟨b2, o2, e2, hb2, hc2⟩ := (H2.out.below (hb.mono hB2)).at_ (k := k) (by rw [N2.out]; exact hlt)
        subst e1
        subst e2
        obtain ⟨x, hx⟩ : ∃ x, x = xs[k]'(by rw [N1.out]; exact hlt) := ⟨_, rfl⟩
        obtain ⟨y, hy⟩ : ∃ y, y = ys[k]'(by rw [N2.out]; exact hlt) := ⟨_, rfl⟩
        rw [← hx] at hc1
        rw [← hy] at hc2
        have d1 : wr.cell? ⟨b1, o1 + k, none⟩ = some (.int .u8 (bv x)) := hc1
        have d2 : wr.cell? ⟨b2, o2 + k, none⟩ = some (.int .u8 (bv y)) := hc2
        have HX := Lib.hid hx
        have HY := Lib.hid hy
        have HEq := Lib.hid heq
        have HB := Lib.hid hb
        clear hc1 hc2 hx hy heq hb
        by_cases hxy : x = y
        · have hn : (bv x != bv y) = false := by rw [hxy]; simp
          have Hxy := Lib.hid hxy
          clear hxy
          go_wp2_with fail
          go_quiet (fail)
          go_wp2_with fail
          go_roundw
          case rel =>
            refine ⟨k + 1, by omega, by go_num, ?_, below_drewN HB.out _⟩
            rw [List.take_add_one, List.take_add_one, HEq.out, List.getElem?_eq_getElem (by rw [N1.out]; exact hlt), List.getElem?_eq_getElem (by rw [N2.out]; exact hlt), ← HX.out, ← HY.out, Hxy.out]
          case measure => simp [intOf]; omega
        · have hn : (bv x != bv y) = true := by rw [bne_iff_ne]; intro h; exact hxy (bv_inj h)
          have Hxy := Lib.hid hxy
          clear hxy
          go_wp2_with fail
          go_quiet (fail)
          go_wp2_with fail
          go_ret
          have e : r = false := by
            rw [Hr.out, beq_eq_false_iff_ne]
            intro h
            subst h
            exact Hxy.out (HX.out.trans HY.out.symm)
          subst e
          exact ⟨rfl, below_drewN HB.out _⟩
      · obtain rfl : k = n1 := by omega
        have e : r = true := by
          rw [Hr.out, beq_iff_eq]
          have h := heq
          rwa [List.take_of_length_le (by rw [N1.out]; exact Nat.le_refl _), List.take_of_length_le (by rw [N2.out]; exact Nat.le_refl _)] at h
        subst e
        go_wp2_with fail
        go_ret
        exact ⟨rfl, hb⟩
  · have e : (xs == ys) = false := by rw [beq_eq_false_iff_ne]; intro h; exact hl (by rw [← hn1, ← hn2, h])
    have hne : ((n1 : Int) != (n2 : Int)) = true := by rw [bne_iff_ne]; omega
    rw [e]
    clear e hl h1 h2 hn1 hn2
    go_enter Try.func100, Try.ntmps100
    go_wp2
    go_ret
    exact ⟨rfl, Below.refl _ _⟩
end Go.Proofs.Ytloglpamnalmeaa
