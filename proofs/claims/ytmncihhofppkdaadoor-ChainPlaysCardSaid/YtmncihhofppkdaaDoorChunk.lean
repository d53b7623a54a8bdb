/- CONTRACTS: slices.Chunk and its iterator, where the bytes part evenly. -/
import Derived.Test.YtmncihhofppkdaaDoorSlices
import Derived.RangeFuncNested
import Derived.RangeFuncBound
import Derived.RangeFuncLeaves
import Derived.RangeFuncBox
import Derived.Shelf.Abstract
import Derived.Shelf.RegionOpen
import Derived.OwnWalkIn
import Derived.TacticsInMore
import Derived.LoopNIn
import Derived.LoopIn
namespace Go.Proofs.YtmncihhofppkdaaDoor
open Go.RowKit
set_option linter.unusedVariables false
set_option linter.unusedSimpArgs false
attribute [local go_sem] Oper.semAt_some

theorem chunk_any (A : Option Addr) (n c q : Nat) (hq : 1 ≤ q) (hq2 : q ≤ 1000) (w : World) :
    Calls Tryd.prog 80 #[.slice A n c, .int .i64 (q : Int)] w fun e w' => e = .returned (.func (.func 85) #[] #[.pointer (some ⟨w.heap.size, 0, none⟩), .pointer (some ⟨w.heap.size + 1, 0, none⟩)]) ∧
      w' = (w.alloc (.cells #[.slice A n c] 30)).alloc (.cells #[.int .i64 (q : Int)] 3) := by
  have h1 : ¬ ((q : Int) < 1) := by omega
  go_enter Tryd.func80, Tryd.ntmps80
  go_wp2_with fail
  go_ret
  exact ⟨rfl, rfl⟩

/-- what a loop over even parts is handed: a part's number -/
abbrev Ci (N : Nat) := { i : Nat // i < N }
def encC (b q : Nat) {N : Nat} (x : Ci N) : Array Value := #[.slice (some ⟨b, q * x.1, none⟩) q q]
def KpC (n₀ bs bn : Nat) (A B : World) : Prop := Below n₀ A B ∧ B.heap[bs]? = A.heap[bs]? ∧ B.heap[bn]? = A.heap[bn]?
theorem KpC.t {n₀ bs bn : Nat} {A B C : World} (h : KpC n₀ bs bn A B) (k : KpC n₀ bs bn B C) : KpC n₀ bs bn A C := ⟨h.1.trans k.1, k.2.1.trans h.2.1, k.2.2.trans h.2.2⟩
theorem boxed_bl {w w' : World} {B : Nat} {t : TypeId} {v : Value} (h : Boxed w B t v) (hb : Below w.heap.size w w') : Boxed w' B t v := (hb.block B h.lt).trans h
theorem grown_none2 {w w' : World} (hb : Below w.heap.size w w') : w.grownBy w' none := ⟨hb.os, hb.tape, hb.output, hb.size, fun k hk _ => hb.block k hk⟩

set_option maxRecDepth 100000 in
set_option maxHeartbeats 1000000 in
theorem chunk1_in (m : Nat) (hm : 3 ≤ m) (b c q N l bs bn n₀ : Nat) (hq : 1 ≤ q) (hq2 : q ≤ 1000) (hN : q * N ≤ 1000000000) (hc : q * N ≤ c) (J Jx : List (Ci N) → World → Prop) (W : World) (hJ : AbidesFrom W.heap.size J)
    (hY : ∀ pre y W1, J pre W1 → pre.length < N → YieldAt Fence.wide (m - 1) Tryd.prog l (encC b q y) W1 fun e W' =>
      (e = .returned (.bool true) ∧ J (pre ++ [y]) W' ∧ KpC n₀ bs bn W1 W') ∨ (e = .returned (.bool false) ∧ Jx (pre ++ [y]) W'))
    (hbs : Boxed W bs 30 (.slice (some ⟨b, 0, none⟩) (q * N) c)) (hbn : Boxed W bn 3 (.int .i64 (q : Int))) (h0 : J [] W) :
    CallsIn Fence.wide m Tryd.prog 85 #[.func (.yield l) #[] #[], .pointer (some ⟨bs, 0, none⟩), .pointer (some ⟨bn, 0, none⟩)] W fun e W' => (∃ v, e = .returned v) ∧
      ((∃ ys : List (Ci N), ys.map Subtype.val = List.range N ∧ J ys W') ∨ (∃ pre : List (Ci N), True ∧ Jx pre W')) := by
  refine callsIn_of_wp Tryd.func85 rfl trivial ?_ rfl
  simp only [Tryd.ntmps85, List.size_toArray, List.length_cons, List.length_nil, Nat.reduceAdd, Nat.reduceSub, Array.replicate_succ, Array.replicate_zero, List.push_toArray, List.append_toArray, List.nil_append, List.cons_append]
  obtain ⟨L, hL⟩ : ∃ L, L = q * N := ⟨_, rfl⟩
  rw [← hL] at hbs hN hc
  have HJ := Lib.hid hJ
  have HY := Lib.hid hY
  have H0 := Lib.hid h0
  have HBs := Lib.hid hbs
  have HBn := Lib.hid hbn
  have HL := Lib.hid hL
  have hm1 : 1 ≤ m := by omega
  have hm2 : 1 ≤ m - 1 := by omega
  clear hJ hY h0 hbs hbn hL
  gi_wp2_with fail
  gi_loopw [4] (fun v wr => ∃ (k p : Nat) (pre : List (Ci N)), p = q * k ∧ v = .int .i64 (p : Int) ∧ k ≤ N ∧ p ≤ L ∧ pre.map Subtype.val = List.range k ∧ J pre wr ∧ Boxed wr bs 30 (.slice (some ⟨b, 0, none⟩) L c) ∧ Boxed wr bn 3 (.int .i64 (q : Int))) (fun v _ => (L - intOf v).toNat)
  case atStart => exact ⟨0, 0, [], by simp, rfl, by omega, by omega, rfl, H0.out, HBs.out, HBn.out⟩
  case round =>
    obtain ⟨k, p, pre, hp, rfl, hkN, hpL, hpre, hJs, hbs, hbn⟩ := hrel
    have cs := hbs.cell
    have cn := hbn.cell
    have HBs2 := Lib.hid hbs
    have HBn2 := Lib.hid hbn
    have HJs := Lib.hid hJs
    have Hpre := Lib.hid hpre
    have Hp := Lib.hid hp
    clear hbs hbn hJs hpre hp
    by_cases hlt : k < N
    · have hle : p + q ≤ L := by
        rw [Hp.out, HL.out, ← Nat.mul_succ]; exact Nat.mul_le_mul_left q hlt
      have hmin : min (q : Int) ((L - p : Nat) : Int) = (q : Int) := by omega
      have hpc : ¬ (c = p) := by omega
      gi_wp2_with fail
      refine wpIn_wide.2 ?_
      go_quiet (fail)
      have HJ2 := Lib.hid (HJ.out _ _ _ none HJs.out (show wr.grownBy (wr.drewN nq) none from ⟨rfl, rfl, rfl, Nat.le_refl _, fun _ _ _ => rfl⟩) (fun r e => by cases e))
      have HBs3 := Lib.hid (show Boxed (wr.drewN nq) bs 30 (.slice (some ⟨b, 0, none⟩) L c) from HBs2.out)
      have HBn3 := Lib.hid (show Boxed (wr.drewN nq) bn 3 (.int .i64 (q : Int)) from HBn2.out)
      clear HJs HBs2 HBn2 cs cn
      generalize wr.drewN nq = wv at HJ2 HBs3 HBn3 ⊢
      have cs := HBs3.out.cell
      have cn := HBn3.out.cell
      obtain ⟨fn, tmps, assign, body, hy, hR⟩ := HY.out pre ⟨k, hlt⟩ wv HJ2.out (by have := congrArg List.length Hpre.out; rw [List.length_map, List.length_range] at this; omega)
      dsimp only [encC] at hy
      rw [← Hp.out] at hy
      have HRn := Lib.hid hR
      clear hR
      gi_wp2_with fail
      refine HRn.out.mono ?_
      rintro e w3 (⟨rfl, hJ3, hk3, hks, hkn⟩ | ⟨rfl, hJx3⟩)
      · have hbs3 : Boxed w3 bs 30 (.slice (some ⟨b, 0, none⟩) L c) := hks.trans HBs3.out
        have hbn3 : Boxed w3 bn 3 (.int .i64 (q : Int)) := hkn.trans HBn3.out
        have cn3 := hbn3.cell
        have HB1 := Lib.hid hbs3
        have HB2 := Lib.hid hbn3
        have HJ3 := Lib.hid hJ3
        clear hbs3 hbn3 hks hkn hJ3 hk3
        gi_wp2_with fail
        go_roundw
        case rel =>
          refine ⟨k + 1, p + q, pre ++ [⟨k, hlt⟩], by rw [Hp.out, Nat.mul_succ], by go_num, hlt, hle, ?_, HJ3.out, HB1.out, HB2.out⟩
          rw [List.map_append, Hpre.out, List.range_succ]; rfl
        case measure => simp [intOf]; omega
      · gi_wp2_with fail
        refine bodyPost_ret (results_none rfl _ _ _) rfl ?_
        exact ⟨⟨_, rfl⟩, .inr ⟨_, trivial, hJx3⟩⟩
    · obtain rfl : k = N := by omega
      have hpL2 : p = L := by rw [Hp.out, HL.out]
      subst hpL2
      gi_wp2_with fail
      go_end0
      exact ⟨⟨_, rfl⟩, .inl ⟨pre, Hpre.out, HJs.out⟩⟩
theorem chunk_stops (m : Nat) (hm : 3 ≤ m) (b c q N bs bn n₀ : Nat) (hq : 1 ≤ q) (hq2 : q ≤ 1000) (hN : q * N ≤ 1000000000) (hc : q * N ≤ c) (w : World)
    (hbs : Boxed w bs 30 (.slice (some ⟨b, 0, none⟩) (q * N) c)) (hbn : Boxed w bn 3 (.int .i64 (q : Int))) :
    SeqStopsK Fence.wide m Tryd.prog 85 #[.pointer (some ⟨bs, 0, none⟩), .pointer (some ⟨bn, 0, none⟩)] (fun x : Ci N => encC b q x) (KpC n₀ bs bn) (fun ys => ys.map Subtype.val = List.range N) (fun _ => True) N w := fun l J Jx W hW hJ _ hY h0 =>
  chunk1_in m hm b c q N l bs bn n₀ hq hq2 hN hc J Jx W hJ hY (boxed_bl hbs hW) (boxed_bl hbn hW) h0
end Go.Proofs.YtmncihhofppkdaaDoor
