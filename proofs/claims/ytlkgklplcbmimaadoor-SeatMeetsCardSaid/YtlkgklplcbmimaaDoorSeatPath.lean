/- CONTRACTS: burrowref13.Path, seat.Path and its iterator; the walk of SeatPaths. -/
import Derived.Test.YtlkgklplcbmimaaDoorSeatFs
import Derived.RangeFuncNested
import Derived.RangeFuncBound
import Derived.RangeFuncCalls
import Derived.RangeFuncLeaves
import Derived.Shelf.Abstract
import Derived.Shelf.RegionOpen
import Derived.OwnWalkIn
import Derived.TacticsInMore
import Derived.LoopNIn
import Derived.LoopIn
import Derived.Deep.QuietTactic
import Derived.BigQuiet
namespace Go.Proofs.YtlkgklplcbmimaaDoor
open Go.RowKit
set_option linter.unusedVariables false
attribute [local go_sem] Oper.semAt_some

theorem infoInt : (Tryd.prog.info? 3).map (fun i => (i.zero, i.size, i.bytes)) = some (some (.int .i64 0), 1, 8) := by kernel_rfl
def i64v (z : Int) : Value := .int .i64 z
theorem i64v_one (x : Int) : (i64v x).oneCell' = true := rfl
/-- the nodes above: the chain of parents from p on -/
def upL : Nat → Int → Int → List Int
  | 0, _, _ => []
  | f + 1, p, n => if p < 0 then [] else p :: upL f (parV p n) n
def pathL (x n : Int) : List Int := upL 8 (parV x n) n
def chainB (n : Int) : Int → List Int → Bool
  | p, [] => decide (p < 0)
  | p, q :: l => q == p && decide (0 ≤ p) && decide (p < 64) && chainB n (parV p n) l
theorem law_chain : ∀ n ∈ ([1, 2, 4, 8, 16, 32] : List Nat), ∀ x : Nat, x < 2 * n - 1 → (chainB (n : Int) (parV (x : Int) (n : Int)) (pathL (x : Int) (n : Int)) && decide ((pathL (x : Int) (n : Int)).length ≤ 6)) = true := by decide +kernel
theorem chain_of (x n : Int) : chainB n (parV x n) (pathL x n) = true ∧ (pathL x n).length ≤ 6 := by
  cases hn : nodeB x n with
  | false =>
    have e : parV x n = -1 := if_pos (.inl hn)
    have e2 : pathL x n = [] := by unfold pathL; rw [e]; rfl
    rw [e, e2]; exact ⟨rfl, by simp⟩
  | true =>
    obtain ⟨a, b, rfl, rfl, hb, ha⟩ := nodes x n hn
    have := law_chain b hb a ha
    simpa using this
theorem chain_nil {n p : Int} (h : chainB n p [] = true) : p < 0 := by simpa [chainB] using h
theorem chain_cons {n p q : Int} {l : List Int} (h : chainB n p (q :: l) = true) : q = p ∧ 0 ≤ p ∧ p < 64 ∧ chainB n (parV p n) l = true := by
  simp only [chainB, Bool.and_eq_true, beq_iff_eq, decide_eq_true_eq] at h
  exact ⟨h.1.1.1, h.1.1.2, h.1.2, h.2⟩
theorem chain_up {n : Int} : ∀ (f : Nat) (p : Int) (l : List Int), chainB n p l = true → l.length < f → upL f p n = l
  | 0, _, _, _, h => absurd h (by omega)
  | f + 1, p, [], h, _ => by unfold upL; rw [if_pos (chain_nil h)]
  | f + 1, p, q :: l, h, hl => by
    obtain ⟨rfl, h0, _, hc⟩ := chain_cons h
    simp only [List.length_cons] at hl
    unfold upL
    rw [if_neg (by omega), chain_up f _ l hc (by omega)]

set_option maxRecDepth 100000 in
set_option maxHeartbeats 1000000 in
theorem refPath_any (x n : Int) (w : World) :
    Calls Tryd.prog 9 #[.int .i64 x, .int .i64 n] w fun e w' => ∃ v, e = .returned v ∧ Own i64v w' w.heap.size 3 v (pathL x n) ∧ Below w.heap.size w w' := by
  obtain ⟨i0, hi0, hz0, hz1, hz2⟩ := info_parts infoInt
  obtain ⟨hch, hlen⟩ := chain_of x n
  obtain ⟨L, hL⟩ : ∃ L, L = pathL x n := ⟨_, rfl⟩
  rw [← hL] at hch hlen ⊢
  obtain ⟨p0, hp0⟩ : ∃ p, p = parV x n := ⟨_, rfl⟩
  have c0 := fun w => refParent_any x n w
  simp only [← hp0] at c0
  rw [← hp0] at hch
  have C0 := Lib.hid c0
  have Hch := Lib.hid hch
  clear c0 hch hL hp0
  go_enter Tryd.func9, Tryd.ntmps9
  go_wp2_with (go_at_call 16; refine (C0.out _).mono ?_; rintro e w' ⟨rfl, rfl⟩)
  go_loopw [5, 6] (fun v p wr => ∃ (pre rest : List Int) (q : Int), p = .int .i64 q ∧ L = pre ++ rest ∧ chainB n q rest = true ∧ Own i64v wr w.heap.size 3 v pre ∧ Below w.heap.size w wr) (fun _ p _ => (upL 8 (intOf p) n).length)
  case atStart => exact ⟨[], L, p0, rfl, rfl, Hch.out, Own.nil_ _ _ _ _, Below.refl _ _⟩
  case round =>
    obtain ⟨pre, rest, q, rfl, hx, hch, hown, hb⟩ := hrel
    have hz := hb.size
    have hpl : pre.length + rest.length ≤ 6 := by have := congrArg List.length hx; rw [List.length_append] at this; omega
    have hu := chain_up 8 q rest hch (by omega)
    have Hu := Lib.hid hu
    have Hx := Lib.hid hx
    clear hu hx
    cases rest with
    | nil =>
      have hq := chain_nil hch
      clear hch
      go_wp2
      go_ret
      exact ⟨_, rfl, hown.cast (by rw [Hx.out, List.append_nil]), hb⟩
    | cons y l =>
      obtain ⟨rfl, h0, h64, hch2⟩ := chain_cons hch
      have cp := fun w => refParent_any y n w
      obtain ⟨p1, hp1⟩ : ∃ p, p = parV y n := ⟨_, rfl⟩
      simp only [← hp1] at cp
      rw [← hp1] at hch2
      have Cp := Lib.hid cp
      have Hch2 := Lib.hid hch2
      simp only [List.length_cons] at hpl
      clear cp hch hch2 hp1
      go_wp2_with (first
        | (at_builtin; refine wpList_append_rd rfl _ _ 23 rfl i64v_one w.heap.size 3 i0 _ 8 Tryd.underlying23 hi0 hz0 hz1 hz2 rfl _ pre rfl (hown.alloc _) (wr.heap.size + 1) _ 1 1 [y] rfl rfl (Rd.new i64v _ _ [y]) (by simp [maxLen]; omega) (by simp; omega) (by simp; omega) ?_; intro v7 w7 hown7 hg7 hbb7)
        | (go_at_call 16; refine (Cp.out _).mono ?_; rintro e w' ⟨rfl, rfl⟩))
      go_roundw
      case rel => exact ⟨pre ++ [y], l, p1, rfl, by rw [Hx.out]; simp, Hch2.out, hown7, hbb7 _ _ (Nat.le_refl _) (by (repeat' (first | assumption | exact Below.refl _ _ | refine Below.drew ?_ | refine Below.alloc ?_ ?_ _ | omega | (simp; done) | (simp; omega))))⟩
      case measure =>
        show (upL 8 p1 n).length < (upL 8 y n).length
        rw [Hu.out, chain_up 8 p1 l Hch2.out (by omega)]; simp

/-- what a world holds of a block is kept where nothing below it has turned -/
theorem tab_below {w w' : World} {n : Nat} (h : Tab w) (hn : 1 < n) (hb : Below n w w') : Tab w' := fun j hj => (World.cell?_of_block (a := ⟨1, j, none⟩) (hb.block 1 hn)).trans (h j hj)
theorem grown_none {w w' : World} (hb : Below w.heap.size w w') : w.grownBy w' none := ⟨hb.os, hb.tape, hb.output, hb.size, fun k hk _ => hb.block k hk⟩

theorem path_any (x n : Int) (w : World) :
    Calls Tryd.prog 10 #[.int .i64 x, .int .i64 n] w fun e w' => e = .returned (.func (.func 27) #[] #[.pointer (some ⟨w.heap.size, 0, none⟩), .pointer (some ⟨w.heap.size + 1, 0, none⟩)]) ∧ w' = (w.alloc (.cells #[.int .i64 x] 3)).alloc (.cells #[.int .i64 n] 3) := by
  go_enter Tryd.func10, Tryd.ntmps10
  go_wp2
  go_ret
  exact ⟨rfl, rfl⟩

theorem lt_cell {w : World} {b : Nat} {v : Value} (h : w.cell? ⟨b, 0, none⟩ = some v) : b < w.heap.size := by
  rcases Nat.lt_or_ge b w.heap.size with hl | hl
  · exact hl
  · simp [World.cell?, Array.getElem?_eq_none hl] at h
/-- what the body of a loop over a path keeps: what lay below n₀, and the box of n -/
def KpP (n₀ bn : Nat) (A B : World) : Prop := Below n₀ A B ∧ B.heap[bn]? = A.heap[bn]?
theorem KpP.t {n₀ bn : Nat} {A B C : World} (h : KpP n₀ bn A B) (k : KpP n₀ bn B C) : KpP n₀ bn A C := ⟨h.1.trans k.1, k.2.trans h.2⟩

set_option maxRecDepth 100000 in
set_option maxHeartbeats 2000000 in
theorem path1_in (m : Nat) (hm : 3 ≤ m) (x n : Int) (hx : x < 9223372036854775808) (h1 : -9223372036854775808 ≤ n) (h2 : n < 9223372036854775808) (l bx bn n₀ : Nat) (hn₀ : 1 < n₀) (J Jx : List Int → World → Prop) (W : World) (hJ : AbidesFrom W.heap.size J)
    (hY : ∀ pre y W1, J pre W1 → pre.length < (pathL x n).length → y < 64 → YieldAt Fence.wide (m - 1) Tryd.prog l #[.int .i64 y] W1 fun e W' =>
      (e = .returned (.bool true) ∧ J (pre ++ [y]) W' ∧ KpP n₀ bn W1 W') ∨ (e = .returned (.bool false) ∧ Jx (pre ++ [y]) W'))
    (hcx : W.cell? ⟨bx, 0, none⟩ = some (.int .i64 x)) (hcn : W.cell? ⟨bn, 0, none⟩ = some (.int .i64 n)) (hT : Tab W) (h0 : J [] W) :
    CallsIn Fence.wide m Tryd.prog 27 #[.func (.yield l) #[] #[], .pointer (some ⟨bx, 0, none⟩), .pointer (some ⟨bn, 0, none⟩)] W fun e W' => (∃ v, e = .returned v) ∧
      ((∃ ys, ys = pathL x n ∧ J ys W') ∨ (∃ pre, pre <+: pathL x n ∧ Jx pre W')) := by
  refine callsIn_of_wp Tryd.func27 rfl trivial ?_ rfl
  simp only [Tryd.ntmps27, List.size_toArray, List.length_cons, List.length_nil, Nat.reduceAdd, Nat.reduceSub, Array.replicate_succ, Array.replicate_zero, List.push_toArray, List.append_toArray, List.nil_append, List.cons_append]
  obtain ⟨hch, hlen⟩ := chain_of x n
  obtain ⟨L, hL⟩ : ∃ L, L = pathL x n := ⟨_, rfl⟩
  rw [← hL] at hY hch hlen ⊢
  obtain ⟨p0, hp0⟩ : ∃ p, p = parV x n := ⟨_, rfl⟩
  have c0 := fun w ht => parent_any x n hx h1 h2 w ht
  simp only [← hp0] at c0
  rw [← hp0] at hch
  have C0 := Lib.hid c0
  have Hch := Lib.hid hch
  have HT := Lib.hid hT
  have HY := Lib.hid hY
  have HJ := Lib.hid hJ
  have H0 := Lib.hid h0
  clear c0 hch hL hp0 hT hY hJ h0
  have hm1 : 1 ≤ m := by omega
  have hm2 : 1 ≤ m - 1 := by omega
  gi_wp2_with (refine ⟨trivial, ?_⟩; gi_at_call 15; refine (callsIn_wide.2 (C0.out _ HT.out)).mono ?_; rintro e w1 ⟨rfl, hb1⟩)
  have hcn1 : w1.cell? ⟨bn, 0, none⟩ = some (.int .i64 n) := (hb1.cell (p := ⟨bn, 0, none⟩) (lt_cell hcn)).trans hcn
  gi_loopw [4] (fun p wr => ∃ (pre rest : List Int) (q : Int), p = .int .i64 q ∧ L = pre ++ rest ∧ chainB n q rest = true ∧ J pre wr ∧ wr.cell? ⟨bn, 0, none⟩ = some (.int .i64 n) ∧ Tab wr) (fun p _ => (upL 8 (intOf p) n).length)
  case atStart => exact ⟨[], L, p0, rfl, rfl, Hch.out, HJ.out _ _ _ none H0.out (grown_none hb1) (fun r e => by cases e), hcn1, HT.out.below hb1⟩
  case round =>
    obtain ⟨pre, rest, q, rfl, hx, hch, hJs, hcn2, hT2⟩ := hrel
    have hpl : pre.length + rest.length ≤ 6 := by have := congrArg List.length hx; rw [List.length_append] at this; omega
    have hu := chain_up 8 q rest hch (by omega)
    have Hu := Lib.hid hu
    have Hx := Lib.hid hx
    have Hcn1 := Lib.hid hcn1
    have Hcn := Lib.hid hcn
    have Hcx := Lib.hid hcx
    clear hu hx hcn1 hcn hcx
    cases rest with
    | nil =>
      have hq := chain_nil hch
      clear hch
      gi_wp2
      go_end0
      exact ⟨⟨_, rfl⟩, .inl ⟨pre, by rw [Hx.out, List.append_nil], hJs⟩⟩
    | cons y l' =>
      obtain ⟨rfl, h0, h64, hch2⟩ := chain_cons hch
      obtain ⟨fn, tmps, assign, body, hy, hR⟩ := HY.out pre y wr hJs (by rw [Hx.out]; simp) h64
      obtain ⟨p1, hp1⟩ : ∃ p, p = parV y n := ⟨_, rfl⟩
      have cp := fun w ht => parent_any y n (by omega) h1 h2 w ht
      simp only [← hp1] at cp
      rw [← hp1] at hch2
      have Cp := Lib.hid cp
      have Hch2 := Lib.hid hch2
      simp only [List.length_cons] at hpl
      have HJs := Lib.hid hJs
      have HT2 := Lib.hid hT2
      have HR := Lib.hid hR
      clear cp hch hch2 hp1 hJs hT2 hR
      gi_wp2
      refine HR.out.mono ?_
      rintro e w3 (⟨rfl, hJ3, hk3, hkn⟩ | ⟨rfl, hJx3⟩)
      · have hcn3 : w3.cell? ⟨bn, 0, none⟩ = some (.int .i64 n) := (World.cell?_of_block (a := ⟨bn, 0, none⟩) hkn).trans hcn2
        have HJ3 := Lib.hid hJ3
        have HT3 := Lib.hid (tab_below HT2.out hn₀ hk3)
        clear hJ3 hkn
        gi_wp2_with (refine ⟨trivial, ?_⟩; gi_at_call 15; refine (callsIn_wide.2 (Cp.out _ HT3.out)).mono ?_; rintro e w4 ⟨rfl, hb4⟩)
        go_roundw
        case rel => exact ⟨pre ++ [y], l', p1, rfl, by rw [Hx.out]; simp, Hch2.out, HJ.out _ _ _ none HJ3.out (grown_none hb4) (fun r e => by cases e), (hb4.cell (p := ⟨bn, 0, none⟩) (lt_cell hcn3)).trans hcn3, HT3.out.below hb4⟩
        case measure =>
          show (upL 8 p1 n).length < (upL 8 y n).length
          rw [Hu.out, chain_up 8 p1 l' Hch2.out (by omega)]; simp
      · gi_wp2
        refine bodyPost_ret (results_none rfl _ _ _) rfl ?_
        exact ⟨⟨_, rfl⟩, .inr ⟨pre ++ [y], ⟨l', by rw [Hx.out]; simp⟩, hJx3⟩⟩

theorem path_stops (m : Nat) (hm : 3 ≤ m) (x n : Int) (hx : x < 9223372036854775808) (h1 : -9223372036854775808 ≤ n) (h2 : n < 9223372036854775808) (bx bn n₀ : Nat) (hn₀ : 1 < n₀) (w : World) (hcx : w.cell? ⟨bx, 0, none⟩ = some (.int .i64 x)) (hcn : w.cell? ⟨bn, 0, none⟩ = some (.int .i64 n)) (hT : Tab w) :
    SeqStopsK Fence.wide m Tryd.prog 27 #[.pointer (some ⟨bx, 0, none⟩), .pointer (some ⟨bn, 0, none⟩)] (fun y : Int => #[Value.int .i64 y]) (KpP n₀ bn) (fun ys => ys = pathL x n) (fun pre => pre <+: pathL x n) (pathL x n).length w := fun l J Jx W hW hJ _ hY h0 =>
  path1_in m hm x n hx h1 h2 l bx bn n₀ hn₀ J Jx W hJ (fun pre y W1 hj hl _ => hY pre y W1 hj hl) ((hW.cell (p := ⟨bx, 0, none⟩) (lt_cell hcx)).trans hcx) ((hW.cell (p := ⟨bn, 0, none⟩) (lt_cell hcn)).trans hcn) (hT.below hW) h0

/-- the same, each node known to be small -/
abbrev S64 := { y : Int // y < 64 }
theorem path_stops64 (m : Nat) (hm : 3 ≤ m) (x n : Int) (hx : x < 9223372036854775808) (h1 : -9223372036854775808 ≤ n) (h2 : n < 9223372036854775808) (bx bn n₀ : Nat) (hn₀ : 1 < n₀) (w : World) (hcx : w.cell? ⟨bx, 0, none⟩ = some (.int .i64 x)) (hcn : w.cell? ⟨bn, 0, none⟩ = some (.int .i64 n)) (hT : Tab w) :
    SeqStopsK Fence.wide m Tryd.prog 27 #[.pointer (some ⟨bx, 0, none⟩), .pointer (some ⟨bn, 0, none⟩)] (fun y : S64 => #[Value.int .i64 y.1]) (KpP n₀ bn) (fun ys => ys.map Subtype.val = pathL x n) (fun pre => pre.map Subtype.val <+: pathL x n) (pathL x n).length w := fun l J Jx W hW hJ _ hY h0 => by
  refine (path1_in m hm x n hx h1 h2 l bx bn n₀ hn₀ (fun l W => ∃ l' : List S64, l'.map Subtype.val = l ∧ J l' W) (fun l W => ∃ l' : List S64, l'.map Subtype.val = l ∧ Jx l' W) W ?_ ?_ ((hW.cell (p := ⟨bx, 0, none⟩) (lt_cell hcx)).trans hcx) ((hW.cell (p := ⟨bn, 0, none⟩) (lt_cell hcn)).trans hcn) (hT.below hW) ⟨[], rfl, h0⟩).mono ?_
  · rintro s A B row ⟨l', e, h⟩ hg hr
    exact ⟨l', e, hJ _ _ _ row h hg hr⟩
  · rintro pre y W1 ⟨l', rfl, h⟩ hl h64
    obtain ⟨fn, tmps, assign, body, hy, hR⟩ := hY l' ⟨y, h64⟩ W1 h (by simpa using hl)
    refine ⟨fn, tmps, assign, body, hy, hR.mono ?_⟩
    rintro e W' (⟨rfl, h1, h2⟩ | ⟨rfl, h1⟩)
    · exact .inl ⟨rfl, ⟨_, by simp, h1⟩, h2⟩
    · exact .inr ⟨rfl, ⟨_, by simp, h1⟩⟩
  · rintro e W' ⟨he, ⟨ys, rfl, l', e1, h⟩ | ⟨pre, hp, l', rfl, h⟩⟩
    · exact ⟨he, .inl ⟨l', e1, h⟩⟩
    · exact ⟨he, .inr ⟨l', hp, h⟩⟩
end Go.Proofs.YtlkgklplcbmimaaDoor
