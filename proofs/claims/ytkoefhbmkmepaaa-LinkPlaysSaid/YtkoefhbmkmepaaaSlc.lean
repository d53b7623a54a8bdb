/- CONTRACTS: slices.Grow (of nil), slices.Concat, slices.Clone, at bytes. -/
import Derived.Test.YtkoefhbmkmepaaaInfo
import Derived.Lib.AppendZeros
import Derived.RangeFuncNested
import Derived.RangeFuncBound
import Derived.RangeFuncLeaves
import Derived.RangeFuncBox
import Derived.Shelf.Abstract
import Derived.Shelf.RegionOpen
import Derived.OwnWalkIn
import Derived.TacticsInMore
import Derived.LoopNIn
import Derived.LoopIn
import Derived.Test.YtkoefhbmkmepaaaArr
namespace Go.Proofs.Ytkoefhbmkmepaaa
open Go.RowKit
set_option linter.unusedVariables false
set_option linter.unusedSimpArgs false

set_option maxRecDepth 100000 in
theorem grow_nil (n : Nat) (hn : n ≤ 100000000) (w : World) : Calls Try.prog 41 #[.slice none 0 0, .int .i64 (n : Int)] w fun e w' => ∃ v, e = .returned v ∧ Own b8 w' w.heap.size 5 v [] ∧ Below w.heap.size w w' := by
  obtain ⟨i0, hi0, hz0, hz1, hz2⟩ := info_parts infoU8
  by_cases h0 : n = 0
  · subst h0
    go_enter Try.func41, Try.ntmps41
    go_wp2
    go_ret
    exact ⟨_, rfl, Own.nil_ _ _ _ _, Below.refl _ _⟩
  · have hpos : 0 < n := by omega
    have hnn : ¬ ((n : Int) < 0) := by omega
    have hrz := fun ty => Lib.run_append_nil_zeros (P := Try.prog) w 47 3 ty 5 i0 _ .i64 .i64 Try.underlying47 Try.underlying3 hi0 hz0 n hpos (by omega) (by omega) (by rw [hz2]; omega)
    have hge := grownCap_ge w n 0 5
    have hmx := grownCap_le_maxLen w n 0 5 (by unfold maxLen; omega)
    generalize grownCap w n 0 5 = G at hrz hge hmx
    have HRZ := Lib.hid hrz
    have HMX := Lib.hid hmx
    clear hrz h0 hmx
    have hp : decide ((n : Int) > 0) = true := by simp; omega
    go_enter Try.func41, Try.ntmps41
    go_wp2_with (at_builtin; refine Lib.wpList_append_run _ rfl _ _ _ _ rfl _ _ rfl rfl _ _ (HRZ.out _) ?_)
    all_goals
      go_ret
      refine ⟨_, rfl, ⟨by simp, .inr ⟨w.heap.size, G, _, rfl, Nat.le_refl _, heap_alloc_new w.drew _, Nat.zero_le _, HMX.out, ?_, by simp⟩⟩, by (repeat' (first | assumption | exact Below.refl _ _ | refine Below.drew ?_ | refine Below.alloc ?_ ?_ _ | omega | (simp; done) | (simp; omega)))⟩
      simp only [Array.size_append, size_zeroCells]
      simp [Value.cells]
      omega

/-- parts of a text: slices, and what they read as -/
abbrev Pt := Sl × List (BitVec 8)
def lenTo (ps : List Pt) (k : Nat) : Nat := ((ps.take k).map fun p => p.2.length).sum
def allTo (ps : List Pt) (k : Nat) : List (BitVec 8) := (ps.take k).flatMap fun p => p.2
theorem allTo_succ (ps : List Pt) (k : Nat) (hk : k < ps.length) : allTo ps (k + 1) = allTo ps k ++ ps[k].2 := by
  unfold allTo
  rw [List.take_succ_eq_append_getElem hk, List.flatMap_append]; simp
theorem lenTo_succ (ps : List Pt) (k : Nat) (hk : k < ps.length) : lenTo ps (k + 1) = lenTo ps k + ps[k].2.length := by
  unfold lenTo
  rw [List.take_succ_eq_append_getElem hk, List.map_append, List.sum_append]; simp
theorem allTo_len (ps : List Pt) (k : Nat) : (allTo ps k).length = lenTo ps k := by
  unfold allTo lenTo
  rw [List.length_flatMap]
theorem lenTo_all (ps : List Pt) : lenTo ps ps.length = (ps.flatMap fun p => p.2).length := by
  rw [← allTo_len]; unfold allTo; rw [List.take_length]
theorem lenTo_mono (ps : List Pt) (k j : Nat) (h : k ≤ j) : lenTo ps k ≤ lenTo ps j := by
  unfold lenTo
  have : ps.take k = (ps.take j).take k := by rw [List.take_take, Nat.min_eq_left h]
  rw [this]
  clear this h
  generalize ps.take j = l
  induction l generalizing k with
  | nil => simp
  | cons a l ih => cases k with
    | zero => simp
    | succ k => simp only [List.take_succ_cons, List.map_cons, List.sum_cons]; have := ih k; omega
/-- the parts lie in memory: the slices in a row, each part readable -/
structure Pts (w : World) (B : Nat) (b off : Nat) (ps : List Pt) : Prop where
  row : ∀ k u, ps[k]? = some u → w.cell? ⟨b, off + k, none⟩ = some (sl u.1)
  lt : b < w.heap.size
  rd : ∀ u ∈ ps, Rd b8 w B u.1.1 u.2
  len : ∀ u ∈ ps, u.1.2.1 = u.2.length
theorem Pts.below {w w' : World} {B C b off : Nat} {ps : List Pt} (h : Pts w B b off ps) (hb : Below C w w') (hB : B ≤ C) (hbC : b < C) : Pts w' B b off ps :=
  ⟨fun k u hu => (hb.cell (p := ⟨b, off + k, none⟩) hbC).trans (h.row k u hu), by have := hb.size; have := h.lt; omega, fun u hu => (h.rd u hu).below (hb.mono hB), h.len⟩

set_option maxRecDepth 100000 in
theorem concat_any (w : World) (B b off c n : Nat) (ps : List Pt) (hp : Pts w B b off ps) (hB : B ≤ w.heap.size) (hn : n = ps.length) (hn2 : n ≤ 100000) (htot : (ps.flatMap fun p => p.2).length ≤ 50000000) :
    Calls Try.prog 32 #[.slice (some ⟨b, off, none⟩) n c] w fun e w' => ∃ v, e = .returned v ∧ Own b8 w' w.heap.size 5 v (ps.flatMap fun p => p.2) ∧ Below w.heap.size w w' := by
  obtain ⟨i0, hi0, hz0, hz1, hz2⟩ := info_parts infoU8
  have HP := Lib.hid hp
  have HN := Lib.hid hn
  have HT := Lib.hid htot
  clear hp hn htot
  go_enter Try.func32, Try.ntmps32
  go_wp2_with fail
  go_loop [3, 11] (fun t i => ∃ k : Nat, k ≤ n ∧ i = .int .i64 k ∧ t = .int .i64 (lenTo ps k : Nat)) (fun _ i => n - (intOf i).toNat)
  case atStart => exact ⟨0, by omega, rfl, rfl⟩
  case round =>
    obtain ⟨k, hk, rfl, rfl⟩ := hrel
    by_cases hlt : k < n
    · have hk' : k < ps.length := by rw [← HN.out]; exact hlt
      obtain ⟨⟨⟨A, m, cc⟩, xs⟩, hu⟩ : ∃ u, ps[k] = u := ⟨_, rfl⟩
      have h1 := HP.out.row k _ (List.getElem?_eq_getElem hk')
      have h2 := HP.out.len _ (List.getElem_mem hk')
      have h3 := lenTo_succ ps k hk'
      have h4 := lenTo_mono ps (k + 1) ps.length (by omega)
      rw [lenTo_all] at h4
      have h5 := HT.out
      rw [hu] at h1 h2 h3
      simp only [sl] at h1 h2 h3
      have hneg : ¬ (((lenTo ps k : Nat) : Int) + (m : Int) < 0) := by omega
      have hbnd : ((lenTo ps k : Nat) : Int) + (m : Int) ≤ 50000000 := by omega
      have H3 := Lib.hid (show lenTo ps (k + 1) = lenTo ps k + m by omega)
      clear h2 h3 h4 h5 hu
      go_wp2_with fail
      go_round
      case rel => exact ⟨k + 1, by omega, by go_num, by rw [H3.out]; go_num⟩
      case measure => simp [intOf]; omega
    · obtain rfl : k = n := by omega
      have hl : lenTo ps k ≤ 50000000 := by rw [HN.out, lenTo_all]; exact HT.out
      generalize lenTo ps k = tot at hl
      go_wp2_with fail
      refine (grow_nil tot (by omega) _).mono ?_
      rintro e w1 ⟨v1, rfl, hown, hb1⟩
      have HO := Lib.hid hown
      have HB := Lib.hid hb1
      clear hown hb1
      go_wp2_with fail
      go_loopw [6, 27] (fun v i wr => ∃ j : Nat, j ≤ k ∧ i = .int .i64 j ∧ Own b8 wr w.heap.size 5 v (allTo ps j) ∧ Below w.heap.size w wr) (fun _ i _ => k - (intOf i).toNat)
      case atStart => exact ⟨0, by omega, rfl, HO.out, HB.out⟩
      case round =>
        clear HO HB
        obtain ⟨j, hj, rfl, hown, hb⟩ := hrel
        by_cases hlt2 : j < k
        · have hj' : j < ps.length := by rw [← HN.out]; exact hlt2
          have hp2 := HP.out.below hb hB HP.out.lt
          have h1 := hp2.row j _ (List.getElem?_eq_getElem hj')
          have h2 := hp2.len _ (List.getElem_mem hj')
          have h3 := hp2.rd _ (List.getElem_mem hj')
          have h4 := lenTo_mono ps (j + 1) ps.length (by omega)
          rw [lenTo_all, lenTo_succ ps j hj'] at h4
          have h5 := HT.out
          have h6 := allTo_succ ps j hj'
          obtain ⟨⟨⟨A, m, cc⟩, xs⟩, hu⟩ : ∃ u, ps[j] = u := ⟨_, rfl⟩
          rw [hu] at h1 h2 h3 h4 h6
          simp only [sl] at h1 h2 h3 h4 h6
          have H2 := Lib.hid h2
          have H3 := Lib.hid h3
          have H6 := Lib.hid h6
          have HO := Lib.hid hown
          have HB := Lib.hid hb
          have hlen := allTo_len ps j
          have HL := Lib.hid (show (allTo ps j).length + xs.length ≤ 50000000 by omega)
          have hz := hb.size
          clear hp2 h2 h3 h4 h5 h6 hu hown hb hlen
          go_wp2_with (at_builtin; refine wpList_append_rd rfl _ _ 47 rfl b8_one w.heap.size 5 i0 _ 1 Try.underlying47 hi0 hz0 hz1 hz2 rfl _ _ rfl HO.out B A m cc xs rfl H2.out H3.out (by have := HL.out; unfold maxLen; omega) (by have := HL.out; omega) hz ?_; intro v7 w7 hown7 hg7 hbb7)
          go_roundw
          case rel => exact ⟨j + 1, by omega, by go_num, by rw [H6.out]; exact hown7, hbb7 _ _ (Nat.le_refl _) HB.out⟩
          case measure => simp [intOf]; omega
        · obtain rfl : j = k := by omega
          go_wp2_with fail
          go_ret
          exact ⟨_, rfl, hown.cast (by unfold allTo; rw [HN.out, List.take_length]), hb⟩

end Go.Proofs.Ytkoefhbmkmepaaa

/- CONTRACTS: slices.Chunk and its iterator, where the bytes part evenly. -/
namespace Go.Proofs.Ytkoefhbmkmepaaa
open Go.RowKit
set_option linter.unusedVariables false
set_option linter.unusedSimpArgs false
attribute [local go_sem] Oper.semAt_some

theorem chunk_any (A : Option Addr) (n c q : Nat) (hq : 1 ≤ q) (hq2 : q ≤ 1000) (w : World) :
    Calls Try.prog 58 #[.slice A n c, .int .i64 (q : Int)] w fun e w' => e = .returned (.func (.func 69) #[] #[.pointer (some ⟨w.heap.size, 0, none⟩), .pointer (some ⟨w.heap.size + 1, 0, none⟩)]) ∧
      w' = (w.alloc (.cells #[.slice A n c] 47)).alloc (.cells #[.int .i64 (q : Int)] 3) := by
  have h1 : ¬ ((q : Int) < 1) := by omega
  go_enter Try.func58, Try.ntmps58
  go_wp2_with fail
  go_ret
  exact ⟨rfl, rfl⟩

/-- what a loop over even parts is handed: a part's number -/
abbrev Ci (N : Nat) := { i : Nat // i < N }
def encC (b q : Nat) {N : Nat} (x : Ci N) : Array Value := #[.slice (some ⟨b, q * x.1, none⟩) q q]
def KpC (n₀ bs bn : Nat) (A B : World) : Prop := Below n₀ A B ∧ B.heap[bs]? = A.heap[bs]? ∧ B.heap[bn]? = A.heap[bn]?
theorem KpC.t {n₀ bs bn : Nat} {A B C : World} (h : KpC n₀ bs bn A B) (k : KpC n₀ bs bn B C) : KpC n₀ bs bn A C := ⟨h.1.trans k.1, k.2.1.trans h.2.1, k.2.2.trans h.2.2⟩
theorem boxed_bl {w w' : World} {B : Nat} {t : TypeId} {v : Value} (h : Boxed w B t v) (hb : Below w.heap.size w w') : Boxed w' B t v := (hb.block B h.lt).trans h
theorem grown_none2 {w w' : World} (hb : Below w.heap.size w w') : w.grownBy w' none := ⟨hb.os, hb.tape, hb.output, hb.size, fun k hk _ => hb.block k hk⟩

set_option maxRecDepth 100000 in
set_option maxHeartbeats 1000000 in
theorem chunk1_in (m : Nat) (hm : 3 ≤ m) (b c q N l bs bn n₀ : Nat) (hq : 1 ≤ q) (hq2 : q ≤ 1000) (hN : q * N ≤ 1000000000) (hc : q * N ≤ c) (J Jx : List (Ci N) → World → Prop) (W : World) (hJ : AbidesFrom W.heap.size J)
    (hY : ∀ pre y W1, J pre W1 → pre.length < N → YieldAt Fence.wide (m - 1) Try.prog l (encC b q y) W1 fun e W' =>
      (e = .returned (.bool true) ∧ J (pre ++ [y]) W' ∧ KpC n₀ bs bn W1 W') ∨ (e = .returned (.bool false) ∧ Jx (pre ++ [y]) W'))
    (hbs : Boxed W bs 47 (.slice (some ⟨b, 0, none⟩) (q * N) c)) (hbn : Boxed W bn 3 (.int .i64 (q : Int))) (h0 : J [] W) :
    CallsIn Fence.wide m Try.prog 69 #[.func (.yield l) #[] #[], .pointer (some ⟨bs, 0, none⟩), .pointer (some ⟨bn, 0, none⟩)] W fun e W' => (∃ v, e = .returned v) ∧
      ((∃ ys : List (Ci N), ys.map Subtype.val = List.range N ∧ J ys W') ∨ (∃ pre : List (Ci N), True ∧ Jx pre W')) := by
  refine callsIn_of_wp Try.func69 rfl trivial ?_ rfl
  simp only [Try.ntmps69, List.size_toArray, List.length_cons, List.length_nil, Nat.reduceAdd, Nat.reduceSub, Array.replicate_succ, Array.replicate_zero, List.push_toArray, List.append_toArray, List.nil_append, List.cons_append]
  obtain ⟨L, hL⟩ : ∃ L, L = q * N := ⟨_, rfl⟩
  rw [← hL] at hbs hN hc
  have HJ := Lib.hid hJ
  have HY := Lib.hid hY
  have H0 := Lib.hid h0
  have HBs := Lib.hid hbs
  have HBn := Lib.hid hbn
  have HL := Lib.hid hL
  have hm1 : 1 ≤ m := by omega
  have hm2 : 1 ≤ m - 1 := by omega
  clear hJ hY h0 hbs hbn hL
  gi_wp2_with fail
  gi_loopw [4] (fun v wr => ∃ (k p : Nat) (pre : List (Ci N)), p = q * k ∧ v = .int .i64 (p : Int) ∧ k ≤ N ∧ p ≤ L ∧ pre.map Subtype.val = List.range k ∧ J pre wr ∧ Boxed wr bs 47 (.slice (some ⟨b, 0, none⟩) L c) ∧ Boxed wr bn 3 (.int .i64 (q : Int))) (fun v _ => (L - intOf v).toNat)
  case atStart => exact ⟨0, 0, [], by simp, rfl, by omega, by omega, rfl, H0.out, HBs.out, HBn.out⟩
  case round =>
    obtain ⟨k, p, pre, hp, rfl, hkN, hpL, hpre, hJs, hbs, hbn⟩ := hrel
    have cs := hbs.cell
    have cn := hbn.cell
    have HBs2 := Lib.hid hbs
    have HBn2 := Lib.hid hbn
    have HJs := Lib.hid hJs
    have Hpre := Lib.hid hpre
    have Hp := Lib.hid hp
    clear hbs hbn hJs hpre hp
    by_cases hlt : k < N
    · have hle : p + q ≤ L := by
        rw [Hp.out, HL.out, ← Nat.mul_succ]; exact Nat.mul_le_mul_left q hlt
      have hmin : min (q : Int) ((L - p : Nat) : Int) = (q : Int) := by omega
      have hpc : ¬ (c = p) := by omega
      gi_wp2_with fail
      refine wpIn_wide.2 ?_
      go_quiet (fail)
      have HJ2 := Lib.hid (HJ.out _ _ _ none HJs.out (show wr.grownBy (wr.drewN nq) none from ⟨rfl, rfl, rfl, Nat.le_refl _, fun _ _ _ => rfl⟩) (fun r e => by cases e))
      have HBs3 := Lib.hid (show Boxed (wr.drewN nq) bs 47 (.slice (some ⟨b, 0, none⟩) L c) from HBs2.out)
      have HBn3 := Lib.hid (show Boxed (wr.drewN nq) bn 3 (.int .i64 (q : Int)) from HBn2.out)
      clear HJs HBs2 HBn2 cs cn
      generalize wr.drewN nq = wv at HJ2 HBs3 HBn3 ⊢
      have cs := HBs3.out.cell
      have cn := HBn3.out.cell
      obtain ⟨fn, tmps, assign, body, hy, hR⟩ := HY.out pre ⟨k, hlt⟩ wv HJ2.out (by have := congrArg List.length Hpre.out; rw [List.length_map, List.length_range] at this; omega)
      dsimp only [encC] at hy
      rw [← Hp.out] at hy
      have HRn := Lib.hid hR
      clear hR
      gi_wp2_with fail
      refine HRn.out.mono ?_
      rintro e w3 (⟨rfl, hJ3, hk3, hks, hkn⟩ | ⟨rfl, hJx3⟩)
      · have hbs3 : Boxed w3 bs 47 (.slice (some ⟨b, 0, none⟩) L c) := hks.trans HBs3.out
        have hbn3 : Boxed w3 bn 3 (.int .i64 (q : Int)) := hkn.trans HBn3.out
        have cn3 := hbn3.cell
        have HB1 := Lib.hid hbs3
        have HB2 := Lib.hid hbn3
        have HJ3 := Lib.hid hJ3
        clear hbs3 hbn3 hks hkn hJ3 hk3
        gi_wp2_with fail
        go_roundw
        case rel =>
          refine ⟨k + 1, p + q, pre ++ [⟨k, hlt⟩], by rw [Hp.out, Nat.mul_succ], by go_num, hlt, hle, ?_, HJ3.out, HB1.out, HB2.out⟩
          rw [List.map_append, Hpre.out, List.range_succ]; rfl
        case measure => simp [intOf]; omega
      · gi_wp2_with fail
        refine bodyPost_ret (results_none rfl _ _ _) rfl ?_
        exact ⟨⟨_, rfl⟩, .inr ⟨_, trivial, hJx3⟩⟩
    · obtain rfl : k = N := by omega
      have hpL2 : p = L := by rw [Hp.out, HL.out]
      subst hpL2
      gi_wp2_with fail
      go_end0
      exact ⟨⟨_, rfl⟩, .inl ⟨pre, Hpre.out, HJs.out⟩⟩
theorem chunk_stops (m : Nat) (hm : 3 ≤ m) (b c q N bs bn n₀ : Nat) (hq : 1 ≤ q) (hq2 : q ≤ 1000) (hN : q * N ≤ 1000000000) (hc : q * N ≤ c) (w : World)
    (hbs : Boxed w bs 47 (.slice (some ⟨b, 0, none⟩) (q * N) c)) (hbn : Boxed w bn 3 (.int .i64 (q : Int))) :
    SeqStopsK Fence.wide m Try.prog 69 #[.pointer (some ⟨bs, 0, none⟩), .pointer (some ⟨bn, 0, none⟩)] (fun x : Ci N => encC b q x) (KpC n₀ bs bn) (fun ys => ys.map Subtype.val = List.range N) (fun _ => True) N w := fun l J Jx W hW hJ _ hY h0 =>
  chunk1_in m hm b c q N l bs bn n₀ hq hq2 hN hc J Jx W hJ hY (boxed_bl hbs hW) (boxed_bl hbn hW) h0
end Go.Proofs.Ytkoefhbmkmepaaa

/- CONTRACTS: slices.Chunk and its iterator, where the last part may be short. -/
namespace Go.Proofs.Ytkoefhbmkmepaaa
open Go.RowKit
set_option linter.unusedVariables false
set_option linter.unusedSimpArgs false
attribute [local go_sem] Oper.semAt_some

/-- a part: its number; it is not empty -/
abbrev Cj (L q : Nat) := { i : Nat // q * i < L }
def encJ (b q L : Nat) (x : Cj L q) : Array Value := #[.slice (some ⟨b, q * x.1, none⟩) (min q (L - q * x.1)) (min q (L - q * x.1))]

set_option maxRecDepth 100000 in
set_option maxHeartbeats 1000000 in
theorem chunkP_in (m : Nat) (hm : 3 ≤ m) (b c q L M l bs bn n₀ : Nat) (hq : 1 ≤ q) (hq2 : q ≤ 1000) (hN : L ≤ 1000000000) (hc : L ≤ c) (hM : M = (L + q - 1) / q) (J Jx : List (Cj L q) → World → Prop) (W : World) (hJ : AbidesFrom W.heap.size J)
    (hY : ∀ pre y W1, J pre W1 → pre.length < M → YieldAt Fence.wide (m - 1) Try.prog l (encJ b q L y) W1 fun e W' =>
      (e = .returned (.bool true) ∧ J (pre ++ [y]) W' ∧ KpC n₀ bs bn W1 W') ∨ (e = .returned (.bool false) ∧ Jx (pre ++ [y]) W'))
    (hbs : Boxed W bs 47 (.slice (some ⟨b, 0, none⟩) L c)) (hbn : Boxed W bn 3 (.int .i64 (q : Int))) (h0 : J [] W) :
    CallsIn Fence.wide m Try.prog 69 #[.func (.yield l) #[] #[], .pointer (some ⟨bs, 0, none⟩), .pointer (some ⟨bn, 0, none⟩)] W fun e W' => (∃ v, e = .returned v) ∧
      ((∃ ys : List (Cj L q), ys.map Subtype.val = List.range M ∧ J ys W') ∨ (∃ pre : List (Cj L q), True ∧ Jx pre W')) := by
  refine callsIn_of_wp Try.func69 rfl trivial ?_ rfl
  simp only [Try.ntmps69, List.size_toArray, List.length_cons, List.length_nil, Nat.reduceAdd, Nat.reduceSub, Array.replicate_succ, Array.replicate_zero, List.push_toArray, List.append_toArray, List.nil_append, List.cons_append]
  have HJ := Lib.hid hJ
  have HY := Lib.hid hY
  have H0 := Lib.hid h0
  have HBs := Lib.hid hbs
  have HBn := Lib.hid hbn
  have hM1 : L ≤ q * M := by
    have h1 := Nat.div_add_mod (L + q - 1) q
    have h2 := Nat.mod_lt (L + q - 1) (show 0 < q by omega)
    rw [← hM] at h1
    omega
  have hM2 : q * M < L + q := by
    have h1 := Nat.div_add_mod (L + q - 1) q
    rw [← hM] at h1
    omega
  have HM1 := Lib.hid hM1
  have HM2 := Lib.hid hM2
  have hm1 : 1 ≤ m := by omega
  have hm2 : 1 ≤ m - 1 := by omega
  clear hJ hY h0 hbs hbn hM hM1 hM2
  gi_wp2_with fail
  gi_loopw [4] (fun v wr => ∃ (k p : Nat) (pre : List (Cj L q)), p = q * k ∧ v = .int .i64 (p : Int) ∧ k ≤ M ∧ pre.map Subtype.val = List.range k ∧ J pre wr ∧ Boxed wr bs 47 (.slice (some ⟨b, 0, none⟩) L c) ∧ Boxed wr bn 3 (.int .i64 (q : Int))) (fun v _ => (L - intOf v).toNat)
  case atStart => exact ⟨0, 0, [], by simp, rfl, by omega, rfl, H0.out, HBs.out, HBn.out⟩
  case round =>
    obtain ⟨k, p, pre, hp, rfl, hkM, hpre, hJs, hbs, hbn⟩ := hrel
    have cs := hbs.cell
    have cn := hbn.cell
    have HBs2 := Lib.hid hbs
    have HBn2 := Lib.hid hbn
    have HJs := Lib.hid hJs
    have Hpre := Lib.hid hpre
    have Hp := Lib.hid hp
    have hpb : p < L + q := by
      have := HM2.out
      have h1 : q * k ≤ q * M := Nat.mul_le_mul_left q hkM
      omega
    clear hbs hbn hJs hpre hp
    by_cases hlt : p < L
    · have hkM' : k < M := by
        rcases Nat.lt_or_ge k M with h | h
        · exact h
        · exfalso
          have h1 : q * M ≤ q * k := Nat.mul_le_mul_left q h
          have := HM1.out; have := Hp.out; omega
      have hpc : ¬ (c = p) := by omega
      by_cases hs : L - p < q
      · have hmin : min (q : Int) ((L - p : Nat) : Int) = ((L - p : Nat) : Int) := by omega
        have hsi : ((L - p : Nat) : Int) < (q : Int) := by omega
        have hsum : (p : Int) + ((L - p : Nat) : Int) = (L : Int) := by omega
        have HT := Lib.hid (show min q (L - p) = L - p by omega)
        gi_wp2_with fail
        refine wpIn_wide.2 ?_
        go_quiet (fail)
        have HJ2 := Lib.hid (HJ.out _ _ _ none HJs.out (show wr.grownBy (wr.drewN nq) none from ⟨rfl, rfl, rfl, Nat.le_refl _, fun _ _ _ => rfl⟩) (fun r e => by cases e))
        have HBs3 := Lib.hid (show Boxed (wr.drewN nq) bs 47 (.slice (some ⟨b, 0, none⟩) L c) from HBs2.out)
        have HBn3 := Lib.hid (show Boxed (wr.drewN nq) bn 3 (.int .i64 (q : Int)) from HBn2.out)
        clear HJs HBs2 HBn2 cs cn
        generalize wr.drewN nq = wv at HJ2 HBs3 HBn3 ⊢
        have cs := HBs3.out.cell
        have cn := HBn3.out.cell
        obtain ⟨fn, tmps, assign, body, hy, hR⟩ := HY.out pre ⟨k, by rw [← Hp.out]; exact hlt⟩ wv HJ2.out (by have := congrArg List.length Hpre.out; rw [List.length_map, List.length_range] at this; omega)
        dsimp only [encJ] at hy
        rw [← Hp.out, HT.out] at hy
        have HRn := Lib.hid hR
        clear hR
        gi_wp2_with fail
        refine HRn.out.mono ?_
        rintro e w3 (⟨rfl, hJ3, hk3, hks, hkn⟩ | ⟨rfl, hJx3⟩)
        · have hbs3 : Boxed w3 bs 47 (.slice (some ⟨b, 0, none⟩) L c) := hks.trans HBs3.out
          have hbn3 : Boxed w3 bn 3 (.int .i64 (q : Int)) := hkn.trans HBn3.out
          have cn3 := hbn3.cell
          have HB1 := Lib.hid hbs3
          have HB2 := Lib.hid hbn3
          have HJ3 := Lib.hid hJ3
          clear hbs3 hbn3 hks hkn hJ3 hk3
          gi_wp2_with fail
          go_roundw
          case rel =>
            refine ⟨k + 1, p + q, pre ++ [⟨k, by rw [← Hp.out]; exact hlt⟩], by rw [Hp.out, Nat.mul_succ], by go_num, hkM', ?_, HJ3.out, HB1.out, HB2.out⟩
            rw [List.map_append, Hpre.out, List.range_succ]; rfl
          case measure => simp [intOf]; omega
        · gi_wp2_with fail
          refine bodyPost_ret (results_none rfl _ _ _) rfl ?_
          exact ⟨⟨_, rfl⟩, .inr ⟨_, trivial, hJx3⟩⟩
      · have hle : p + q ≤ L := by omega
        have hmin : min (q : Int) ((L - p : Nat) : Int) = (q : Int) := by omega
        have HT := Lib.hid (show min q (L - p) = q by omega)
        clear hs
        gi_wp2_with fail
        refine wpIn_wide.2 ?_
        go_quiet (fail)
        have HJ2 := Lib.hid (HJ.out _ _ _ none HJs.out (show wr.grownBy (wr.drewN nq) none from ⟨rfl, rfl, rfl, Nat.le_refl _, fun _ _ _ => rfl⟩) (fun r e => by cases e))
        have HBs3 := Lib.hid (show Boxed (wr.drewN nq) bs 47 (.slice (some ⟨b, 0, none⟩) L c) from HBs2.out)
        have HBn3 := Lib.hid (show Boxed (wr.drewN nq) bn 3 (.int .i64 (q : Int)) from HBn2.out)
        clear HJs HBs2 HBn2 cs cn
        generalize wr.drewN nq = wv at HJ2 HBs3 HBn3 ⊢
        have cs := HBs3.out.cell
        have cn := HBn3.out.cell
        obtain ⟨fn, tmps, assign, body, hy, hR⟩ := HY.out pre ⟨k, by rw [← Hp.out]; exact hlt⟩ wv HJ2.out (by have := congrArg List.length Hpre.out; rw [List.length_map, List.length_range] at this; omega)
        dsimp only [encJ] at hy
        rw [← Hp.out, HT.out] at hy
        have HRn := Lib.hid hR
        clear hR
        gi_wp2_with fail
        refine HRn.out.mono ?_
        rintro e w3 (⟨rfl, hJ3, hk3, hks, hkn⟩ | ⟨rfl, hJx3⟩)
        · have hbs3 : Boxed w3 bs 47 (.slice (some ⟨b, 0, none⟩) L c) := hks.trans HBs3.out
          have hbn3 : Boxed w3 bn 3 (.int .i64 (q : Int)) := hkn.trans HBn3.out
          have cn3 := hbn3.cell
          have HB1 := Lib.hid hbs3
          have HB2 := Lib.hid hbn3
          have HJ3 := Lib.hid hJ3
          clear hbs3 hbn3 hks hkn hJ3 hk3
          gi_wp2_with fail
          go_roundw
          case rel =>
            refine ⟨k + 1, p + q, pre ++ [⟨k, by rw [← Hp.out]; exact hlt⟩], by rw [Hp.out, Nat.mul_succ], by go_num, hkM', ?_, HJ3.out, HB1.out, HB2.out⟩
            rw [List.map_append, Hpre.out, List.range_succ]; rfl
          case measure => simp [intOf]; omega
        · gi_wp2_with fail
          refine bodyPost_ret (results_none rfl _ _ _) rfl ?_
          exact ⟨⟨_, rfl⟩, .inr ⟨_, trivial, hJx3⟩⟩
    · obtain rfl : k = M := by
        rcases Nat.lt_or_ge k M with h | h
        · exfalso
          have h1 : q * (k + 1) ≤ q * M := Nat.mul_le_mul_left q h
          rw [Nat.mul_succ] at h1
          have := HM2.out; have := Hp.out; omega
        · omega
      have hge : ¬ ((p : Int) < (L : Int)) := by omega
      gi_wp2_with fail
      go_end0
      exact ⟨⟨_, rfl⟩, .inl ⟨pre, Hpre.out, HJs.out⟩⟩
theorem chunkP_stops (m : Nat) (hm : 3 ≤ m) (b c q L M bs bn n₀ : Nat) (hq : 1 ≤ q) (hq2 : q ≤ 1000) (hN : L ≤ 1000000000) (hc : L ≤ c) (hM : M = (L + q - 1) / q) (w : World)
    (hbs : Boxed w bs 47 (.slice (some ⟨b, 0, none⟩) L c)) (hbn : Boxed w bn 3 (.int .i64 (q : Int))) :
    SeqStopsK Fence.wide m Try.prog 69 #[.pointer (some ⟨bs, 0, none⟩), .pointer (some ⟨bn, 0, none⟩)] (fun x : Cj L q => encJ b q L x) (KpC n₀ bs bn) (fun ys => ys.map Subtype.val = List.range M) (fun _ => True) M w := fun l J Jx W hW hJ _ hY h0 =>
  chunkP_in m hm b c q L M l bs bn n₀ hq hq2 hN hc hM J Jx W hJ hY (boxed_bl hbs hW) (boxed_bl hbn hW) h0
end Go.Proofs.Ytkoefhbmkmepaaa

/- CONTRACT: slices.Concat of a literal of slices just made. -/
namespace Go.Proofs.Ytkoefhbmkmepaaa
open Go.RowKit
set_option linter.unusedVariables false
set_option linter.unusedSimpArgs false

theorem pts_new (W : World) (B : Nat) (ps : List Pt) (hr : ∀ u ∈ ps, Rd b8 W B u.1.1 u.2) (hl : ∀ u ∈ ps, u.1.2.1 = u.2.length) (hB : B ≤ W.heap.size) : Pts (W.alloc (.cells (ps.map fun u => sl u.1).toArray 47)) B W.heap.size 0 ps :=
  ⟨fun k u hu => by
    rw [Nat.zero_add, cell_of_row _ W.heap.size k _ 47 (0, 0) (heap_alloc_new W _)]
    simp [hu], by simp, fun u hu => (hr u hu).alloc hB _, hl⟩
/-- two slices put together -/
theorem concat_two (W : World) (B m1 d1 m2 d2 : Nat) (C1 C2 : Option Addr) (xs ys : List (BitVec 8)) (hr1 : Rd b8 W B C1 xs) (hr2 : Rd b8 W B C2 ys) (hB : B ≤ W.heap.size) (hm1 : m1 = xs.length) (hm2 : m2 = ys.length) (htot : xs.length + ys.length ≤ 40000000) :
    Calls Try.prog 32 #[.slice (some ⟨W.heap.size, 0, none⟩) 2 2] (W.alloc (.cells #[.slice C1 m1 d1, .slice C2 m2 d2] 47)) fun e w' => ∃ v, e = .returned v ∧ Own b8 w' (W.heap.size + 1) 5 v (xs ++ ys) ∧ Below W.heap.size W w' := by
  refine (concat_any _ B W.heap.size 0 2 2 _ (pts_new W B [((C1, m1, d1), xs), ((C2, m2, d2), ys)] (by simpa using ⟨hr1, hr2⟩) (by simpa using ⟨hm1, hm2⟩) hB) (by simp; omega) rfl (by omega) (by simp; omega)).mono ?_
  rintro e w' ⟨v, rfl, ho, hb⟩
  refine ⟨v, rfl, ?_, ((Below.refl _ W).alloc (Nat.le_refl _) _).trans (hb.mono (by simp))⟩
  rw [World.size_alloc] at ho
  exact ho.cast (by simp)
/-- a literal of slices in its block -/
def PAs (w : World) (g : Nat) (ss : List Sl) : Prop := w.heap[g]? = some (.cells (ss.map sl).toArray 47 (0, 0))
theorem bel_al {w w' : World} {o : Obj} (h : Below w.heap.size w w') : Below w.heap.size w (w'.alloc o) := h.alloc h.size o
theorem bel_dr {w w' : World} (h : Below w.heap.size w w') : Below w.heap.size w w'.drew := h.drew
theorem PAs.lt {w : World} {g : Nat} {ss : List Sl} (h : PAs w g ss) : g < w.heap.size := (Array.getElem?_eq_some_iff.1 h).1
theorem pas_new {w : World} {g : Nat} {ss : List Sl} {cs : Array Value} (hg : g = w.heap.size) (hc : cs = (ss.map sl).toArray) : PAs (w.alloc (.cells cs 47)) g ss := by subst hg hc; exact heap_alloc_new w _
theorem pas_al {w : World} {g : Nat} {ss : List Sl} {o : Obj} (h : PAs w g ss) : PAs (w.alloc o) g ss := (Below.heap_alloc w o g h.lt).trans h
theorem pas_dr {w : World} {g : Nat} {ss : List Sl} (h : PAs w g ss) : PAs w.drew g ss := h
theorem pas_bel {w w' : World} {g : Nat} {ss : List Sl} (hb : Below w.heap.size w w') (h : PAs w g ss) : PAs w' g ss := (hb.block g h.lt).trans h
theorem pts_pas {w : World} {B g : Nat} {ps : List Pt} (h : PAs w g (ps.map (·.1))) (hr : ∀ u ∈ ps, Rd b8 w B u.1.1 u.2) (hl : ∀ u ∈ ps, u.1.2.1 = u.2.length) : Pts w B g 0 ps :=
  ⟨fun k u hu => by
    have h2 : w.heap[g]? = some (.cells (((ps.map (·.1)).map sl).toArray) 47 (0, 0)) := h
    rw [Nat.zero_add, cell_of_row _ g k _ 47 (0, 0) h2]
    simp [hu], h.lt, hr, hl⟩
end Go.Proofs.Ytkoefhbmkmepaaa

/- PLAIN LEMMAS on memory: what lies in cells is kept where an object that is no row of cells is changed. -/
namespace Go.Proofs.Ytkoefhbmkmepaaa
open Go.RowKit
set_option linter.unusedVariables false
set_option linter.unusedSimpArgs false
attribute [local go_sem] Oper.semAt_some
section
variable {W W' : World} {row : Option Nat}
theorem arrO {α : Type} {f : α → Value} {g : Nat} {T : TypeId} {xs : List α} (h : Arr f W g T xs) (hg : W.grownBy W' row) (hr : ∀ r, row = some r → ∃ o : Obj, W.heap[r]? = some o ∧ o.isCells = false) : Arr f W' g T xs :=
  h.grown hg (fun e => by
    obtain ⟨o, ho, hn⟩ := hr g e.symm
    have : W.heap[g]? = some (.cells (xs.map f).toArray T (0, 0)) := h
    rw [this] at ho; cases ho; cases hn)
theorem boxO {g : Nat} {T : TypeId} {v : Value} (h : Boxed W g T v) (hg : W.grownBy W' row) (hr : ∀ r, row = some r → ∃ o : Obj, W.heap[r]? = some o ∧ o.isCells = false) : Boxed W' g T v :=
  h.kept hg (fun e => by
    obtain ⟨o, ho, hn⟩ := hr g e.symm
    have : W.heap[g]? = some (.cells #[v] T (0, 0)) := h
    rw [this] at ho; cases ho; cases hn)
theorem ownO {α : Type} {f : α → Value} {B E : Nat} {v : Value} {xs : List α} (h : Own f W B E v xs) (hg : W.grownBy W' row) (hr : ∀ r, row = some r → ∃ o : Obj, W.heap[r]? = some o ∧ o.isCells = false) : Own f W' B E v xs :=
  h.kept' hg (fun g e hv => by
    obtain ⟨o, ho, hc⟩ := hr g e
    rcases h.2 with ⟨rfl, _⟩ | ⟨g', cap, cur, rfl, _, hg', _⟩
    · cases hv
    · obtain rfl : g' = g := by simpa [Value.ownBlock] using hv
      rw [hg'] at ho; cases ho; cases hc)
end
theorem arr_not_own {α β : Type} {f : α → Value} {f' : β → Value} {w : World} {g T B e : Nat} {ys : List β} {v : Value} {xs : List α} (h : Arr f' w g T ys) (hte : T ≠ e) (hr : Own f w B e v xs) : some g ≠ v.ownBlock := by
  rcases hr.2 with ⟨rfl, _⟩ | ⟨g', cap, cur, rfl, _, hgb, _⟩
  · simp [Value.ownBlock]
  · intro e'
    obtain rfl : g = g' := by simpa [Value.ownBlock] using e'
    have : w.heap[g]? = some (.cells (ys.map f').toArray T (0, 0)) := h
    rw [this] at hgb; cases hgb; exact hte rfl
/-- an iterator over the parts of no text -/
theorem chunkZ_stops (m : Nat) (hm : 3 ≤ m) (A : Option Addr) (b c q bs bn n₀ : Nat) (w : World)
    (hbs : Boxed w bs 47 (.slice A 0 c)) (hbn : Boxed w bn 3 (.int .i64 (q : Int))) :
    SeqStopsK Fence.wide m Try.prog 69 #[.pointer (some ⟨bs, 0, none⟩), .pointer (some ⟨bn, 0, none⟩)] (fun x : Cj 0 q => encJ b q 0 x) (KpC n₀ bs bn) (fun ys => ys.map Subtype.val = List.range 0) (fun _ => True) 0 w := fun l J Jx W hW hJ _ hY h0 => by
  have hbs := boxed_bl hbs hW
  have hbn := boxed_bl hbn hW
  clear hW
  refine callsIn_of_wp Try.func69 rfl trivial ?_ rfl
  simp only [Try.ntmps69, List.size_toArray, List.length_cons, List.length_nil, Nat.reduceAdd, Nat.reduceSub, Array.replicate_succ, Array.replicate_zero, List.push_toArray, List.append_toArray, List.nil_append, List.cons_append]
  have H0 := Lib.hid h0
  have HBs := Lib.hid hbs
  have hm1 : 1 ≤ m := by omega
  have hm2 : 1 ≤ m - 1 := by omega
  clear hJ hY h0 hbs hbn
  gi_wp2_with fail
  gi_loopw [4] (fun v wr => v = .int .i64 0 ∧ J [] wr ∧ Boxed wr bs 47 (.slice A 0 c)) (fun v _ => 0)
  case atStart => exact ⟨rfl, H0.out, HBs.out⟩
  case round =>
    obtain ⟨rfl, hJs, hbs⟩ := hrel
    have cs := hbs.cell
    gi_wp2_with fail
    go_end0
    exact ⟨⟨_, rfl⟩, .inl ⟨[], rfl, hJs⟩⟩
end Go.Proofs.Ytkoefhbmkmepaaa
