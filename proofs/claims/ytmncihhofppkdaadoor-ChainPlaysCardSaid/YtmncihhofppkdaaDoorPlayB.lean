/- CONTRACT: burrowref19.Jump; plain laws of a jump. -/
import Derived.Test.YtmncihhofppkdaaDoorRfLn
import Derived.Test.YtmncihhofppkdaaDoorChainsC
import Derived.Test.YtmncihhofppkdaaDoorBase
import Derived.Test.YtmncihhofppkdaaDoorLookC
import Derived.Test.YtmncihhofppkdaaDoorNewG
import Derived.Test.YtmncihhofppkdaaDoorLkBits
import Derived.Test.YtmncihhofppkdaaDoorRefTk
import Derived.Deep.Slices
import Derived.Deep.Strs
namespace Go.Proofs.YtmncihhofppkdaaDoor
open Go.RowKit
set_option linter.unusedVariables false
set_option linter.unusedSimpArgs false
theorem foldl_stays : ∀ (l : List Int) (z : Int), (∀ a ∈ l, a ≤ z) → l.foldl (fun m x => if m < x then x else m) z = z
  | [], z, _ => rfl
  | a :: r, z, h => by
    rw [List.foldl_cons, if_neg (by have := h a (by simp); omega)]
    exact foldl_stays r z (fun x hx => h x (by simp [hx]))
theorem jumpL_ok {l : LineM} (k : LOK l) (n : Int) : LOK (jumpL l n) := by
  unfold jumpL
  cases hj : jumpB l n with
  | false => exact k
  | true =>
    have hb : l.place ≤ n ∧ n ≤ 4294967295 := by unfold jumpB at hj; exact of_decide_eq_true hj
    have h1 := k.lowp
    have h2 := k.low0
    rw [if_pos rfl]
    refine ⟨k.len, by show 0 ≤ n; omega, Int.le_refl _, hb.2, ?_, fun a ha => ?_, List.Pairwise.nil, (fun o ho => by cases ho), fun m m1 m2 => ?_⟩
    · show hiA l.asked n = n - 1
      unfold hiA
      exact foldl_stays _ _ (fun a ha => by have := (k.asked a ha).2; omega)
    · have := k.asked a ha
      show 0 ≤ a ∧ a < n
      omega
    · have m1' : n ≤ m := m1
      have m2' : m < n := m2
      omega
set_option maxRecDepth 100000 in
set_option maxHeartbeats 4000000 in
theorem refJump_any (w : World) (x : RL) (hx : x.At w) (n : Int) (n0 : -9223372036854775808 ≤ n) (n1 : n < 9223372036854775808) :
    Calls Tryd.prog 25 #[.agg x.cells.toArray, .int .i64 n] w fun e w' => ∃ y : RL, e = .returned (.tuple #[.agg y.cells.toArray, .bool (jumpB x.l n)]) ∧ y.l = jumpL x.l n ∧ y.At w' ∧ (∀ o ∈ y.rs, o ∈ x.rs) ∧ (y.hA = x.hA ∨ y.hA = none) ∧ y.aA = x.aA ∧ Below w.heap.size w w' := by
  have hll := hx.ok.len
  have hpt := hx.ok.top
  have hlp := hx.ok.lowp
  have hl0 := hx.ok.low0
  obtain ⟨C, hC⟩ : ∃ C, C = x.cells := ⟨_, rfl⟩
  obtain ⟨ZL, hZL⟩ : ∃ ZL, ZL = lineR (List.replicate 32 0#8) 0 (.slice none 0 0) (.slice none 0 0) 0 := ⟨_, rfl⟩
  have HCl := Lib.hid (show C.length = 36 by rw [hC]; exact lineR_len hll)
  have HC1 := Lib.hid (show ∀ u ∈ C, u.oneCell' = true by rw [hC]; exact lineR_one rfl rfl)
  have HZl := Lib.hid (show ZL.length = 36 by rw [hZL]; rfl)
  obtain ⟨w1, hw1⟩ : ∃ w1, w1 = (w.alloc (.cells C.toArray 56)).alloc (.cells ZL.toArray 56) := ⟨_, rfl⟩
  have HX := Lib.hid (show Blk w1 w.heap.size 56 C by rw [hw1]; exact (Blk.new w _ _).alloc _)
  have HZ := Lib.hid (show Blk w1 (w.heap.size + 1) 56 ZL by rw [hw1]; exact Blk.at_size _ _ (by simp))
  have HB := Lib.hid (show Below w.heap.size w w1 by rw [hw1]; exact ((Below.refl _ w).alloc (Nat.le_refl _) _).alloc (by simp) _)
  have hz1 : w.heap.size + 2 ≤ w1.heap.size := by rw [hw1]; simp
  obtain ⟨P, hP⟩ : ∃ P, P = x.l.place := ⟨_, rfl⟩
  have c32 := HX.out.cell 32 (u := .int .i64 P) (by rw [hC, hP]; exact lineR_32 hll)
  rw [← hP] at hpt hlp
  have HW1 := Lib.hid hw1
  have HXx := Lib.hid hC
  have HZe := Lib.hid hZL
  have HPe := Lib.hid hP
  have HAt := Lib.hid hx
  have HLl := Lib.hid hll
  rw [← hC]
  clear hC hw1 hZL hP hx hll
  cases hj : jumpB x.l n with
  | false =>
    have hnb : ¬ (P ≤ n ∧ n ≤ 4294967295) := by rw [HPe.out]; unfold jumpB at hj; exact of_decide_eq_false hj
    have HJ := Lib.hid hj
    clear hj
    by_cases h1 : n < P
    · go_enter Tryd.func25, Tryd.ntmps25
      go_upto_region 1 with fail
      have hw1 := HW1.out
      rw [HZe.out] at hw1
      simp only [show (lineR (List.replicate 32 0#8) 0 (.slice none 0 0) (.slice none 0 0) 0).toArray = #[Value.int .u8 0, Value.int .u8 0, Value.int .u8 0, Value.int .u8 0, Value.int .u8 0, Value.int .u8 0, Value.int .u8 0, Value.int .u8 0, Value.int .u8 0, Value.int .u8 0, Value.int .u8 0, Value.int .u8 0, Value.int .u8 0, Value.int .u8 0, Value.int .u8 0, Value.int .u8 0, Value.int .u8 0, Value.int .u8 0, Value.int .u8 0, Value.int .u8 0, Value.int .u8 0, Value.int .u8 0, Value.int .u8 0, Value.int .u8 0, Value.int .u8 0, Value.int .u8 0, Value.int .u8 0, Value.int .u8 0, Value.int .u8 0, Value.int .u8 0, Value.int .u8 0, Value.int .u8 0, Value.int .i64 0, Value.slice none 0 0, Value.slice none 0 0, Value.int .i64 0] from rfl] at hw1
      rw [← hw1]
      clear hw1
      go_wp2_with (first
        | (refine wpList_load_mid rfl 56 (.tmp 2) rfl w.heap.size 0 rfl C _ HX.out.whole Tryd.underlying56 rfl (by rw [HCl.out]; exact sizeRLine) ?_)
        | (refine wpList_store_piece rfl 56 (.tmp 4) (.tmp 14) rfl (w.heap.size + 1) 0 rfl C rfl 56 _ [] ZL [] HZ.out (by simp) rfl (by rw [HCl.out, HZl.out]) (by rw [HCl.out]; exact sizeRLine) HC1.out ?_; intro w9 hx9 hg9))
      have HX9 := Lib.hid (show Blk w9 (w.heap.size + 1) 56 C from hx9.cast (by simp))
      refine bodyPost_ret (v := .tuple #[.agg C.toArray, .bool false]) (results_blk_tmp (g := w.heap.size + 1) rfl _ _ _ _ _ _ rfl rfl HX9.out Tryd.underlying56 rfl (by rw [HCl.out]; exact sizeRLine)) rfl ?_
      have hbf : Below w.heap.size w w9 := HB.out.grown hg9 HB.out.size (fun q e => by cases e; omega)
      exact ⟨x, by rw [HXx.out], by unfold jumpL; rw [HJ.out]; rfl, HAt.out.below hbf (Nat.le_refl _), fun o ho => ho, .inl rfl, rfl, hbf⟩
    · have h1' : ¬ (n < P) := h1
      have h2 : n > 4294967295 := by omega
      go_enter Tryd.func25, Tryd.ntmps25
      go_upto_region 1 with fail
      have hw1 := HW1.out
      rw [HZe.out] at hw1
      simp only [show (lineR (List.replicate 32 0#8) 0 (.slice none 0 0) (.slice none 0 0) 0).toArray = #[Value.int .u8 0, Value.int .u8 0, Value.int .u8 0, Value.int .u8 0, Value.int .u8 0, Value.int .u8 0, Value.int .u8 0, Value.int .u8 0, Value.int .u8 0, Value.int .u8 0, Value.int .u8 0, Value.int .u8 0, Value.int .u8 0, Value.int .u8 0, Value.int .u8 0, Value.int .u8 0, Value.int .u8 0, Value.int .u8 0, Value.int .u8 0, Value.int .u8 0, Value.int .u8 0, Value.int .u8 0, Value.int .u8 0, Value.int .u8 0, Value.int .u8 0, Value.int .u8 0, Value.int .u8 0, Value.int .u8 0, Value.int .u8 0, Value.int .u8 0, Value.int .u8 0, Value.int .u8 0, Value.int .i64 0, Value.slice none 0 0, Value.slice none 0 0, Value.int .i64 0] from rfl] at hw1
      rw [← hw1]
      clear hw1
      go_wp2_with (first
        | (refine wpList_load_mid rfl 56 (.tmp 2) rfl w.heap.size 0 rfl C _ HX.out.whole Tryd.underlying56 rfl (by rw [HCl.out]; exact sizeRLine) ?_)
        | (refine wpList_store_piece rfl 56 (.tmp 4) (.tmp 14) rfl (w.heap.size + 1) 0 rfl C rfl 56 _ [] ZL [] HZ.out (by simp) rfl (by rw [HCl.out, HZl.out]) (by rw [HCl.out]; exact sizeRLine) HC1.out ?_; intro w9 hx9 hg9))
      have HX9 := Lib.hid (show Blk w9 (w.heap.size + 1) 56 C from hx9.cast (by simp))
      refine bodyPost_ret (v := .tuple #[.agg C.toArray, .bool false]) (results_blk_tmp (g := w.heap.size + 1) rfl _ _ _ _ _ _ rfl rfl HX9.out Tryd.underlying56 rfl (by rw [HCl.out]; exact sizeRLine)) rfl ?_
      have hbf : Below w.heap.size w w9 := HB.out.grown hg9 HB.out.size (fun q e => by cases e; omega)
      exact ⟨x, by rw [HXx.out], by unfold jumpL; rw [HJ.out]; rfl, HAt.out.below hbf (Nat.le_refl _), fun o ho => ho, .inl rfl, rfl, hbf⟩
  | true =>
    have hb : P ≤ n ∧ n ≤ 4294967295 := by rw [HPe.out]; unfold jumpB at hj; exact of_decide_eq_true hj
    obtain ⟨hb1, hb2⟩ := hb
    have h1 : ¬ (n < P) := by omega
    have h2 : ¬ (n > 4294967295) := by omega
    have HJ := Lib.hid hj
    have c33 := HX.out.cell 33 (u := .slice x.hA x.rs.length x.hc) (by rw [HXx.out]; exact lineR_33 HLl.out)
    have c35 := HX.out.cell 35 (u := .int .i64 x.l.low) (by rw [HXx.out]; exact lineR_35 HLl.out)
    have f32 := HX.out.frozen 32
    have f33 := HX.out.frozen 33
    have f35 := HX.out.frozen 35
    clear hj
    go_enter Tryd.func25, Tryd.ntmps25
    go_upto_region 1 with fail
    have hw1 := HW1.out
    rw [HZe.out] at hw1
    simp only [show (lineR (List.replicate 32 0#8) 0 (.slice none 0 0) (.slice none 0 0) 0).toArray = #[Value.int .u8 0, Value.int .u8 0, Value.int .u8 0, Value.int .u8 0, Value.int .u8 0, Value.int .u8 0, Value.int .u8 0, Value.int .u8 0, Value.int .u8 0, Value.int .u8 0, Value.int .u8 0, Value.int .u8 0, Value.int .u8 0, Value.int .u8 0, Value.int .u8 0, Value.int .u8 0, Value.int .u8 0, Value.int .u8 0, Value.int .u8 0, Value.int .u8 0, Value.int .u8 0, Value.int .u8 0, Value.int .u8 0, Value.int .u8 0, Value.int .u8 0, Value.int .u8 0, Value.int .u8 0, Value.int .u8 0, Value.int .u8 0, Value.int .u8 0, Value.int .u8 0, Value.int .u8 0, Value.int .i64 0, Value.slice none 0 0, Value.slice none 0 0, Value.int .i64 0] from rfl] at hw1
    rw [← hw1]
    clear hw1
    go_upto_region 6 with fail
    have hx2 := ((HX.out.set_ 32 (.int .i64 n)).set_ 33 (.slice none 0 0)).set_ 35 (.int .i64 n)
    have e2 : ((C.set 32 (.int .i64 n)).set 33 (.slice none 0 0)).set 35 (.int .i64 n) = RL.cells ⟨jumpL x.l n, [], none, 0, x.aA, x.ac⟩ := by
      rw [HXx.out]
      unfold RL.cells jumpL
      rw [lineR_set32 HLl.out, lineR_set33 HLl.out, lineR_set35 HLl.out, HJ.out, if_pos rfl]
      rfl
    have hgA := grownBy_trans (grownBy_trans (grownBy_set w1 w.heap.size 32 (.int .i64 n)) (grownBy_set _ w.heap.size 33 (.slice none 0 0)) (fun _ e => .inl e)) (grownBy_set _ w.heap.size 35 (.int .i64 n)) (fun _ e => .inl e)
    have hx3 := hx2.cast e2
    obtain ⟨D, hD⟩ : ∃ D, D = RL.cells ⟨jumpL x.l n, [], none, 0, x.aA, x.ac⟩ := ⟨_, rfl⟩
    rw [← hD] at hx3
    have HDl := Lib.hid (show D.length = 36 by rw [hD]; exact lineR_len (by unfold jumpL; rw [HJ.out, if_pos rfl]; exact HLl.out))
    have HD1 := Lib.hid (show ∀ u ∈ D, u.oneCell' = true by rw [hD]; exact lineR_one rfl rfl)
    have HDe := Lib.hid hD
    obtain ⟨w2, hw2⟩ : ∃ w2, w2 = ((w1.setCell ⟨w.heap.size, 32, none⟩ (.int .i64 n)).setCell ⟨w.heap.size, 33, none⟩ (.slice none 0 0)).setCell ⟨w.heap.size, 35, none⟩ (.int .i64 n) := ⟨_, rfl⟩
    rw [← hw2] at hx3 hgA ⊢
    have HX3 := Lib.hid hx3
    have HZ3 := Lib.hid (HZ.out.grown hgA (fun e => by injection e with e; omega))
    have HB3 := Lib.hid (HB.out.grown hgA HB.out.size (fun q e => by cases e; exact Nat.le_refl _))
    clear hx2 e2 hgA hx3 hD hw2 c32 c33 c35 f32 f33 f35
    go_wp2_with (first
      | (refine wpList_load_mid rfl 56 (.tmp 2) rfl w.heap.size 0 rfl D _ HX3.out.whole Tryd.underlying56 rfl (by rw [HDl.out]; exact sizeRLine) ?_)
      | (refine wpList_store_piece rfl 56 (.tmp 4) (.tmp 20) rfl (w.heap.size + 1) 0 rfl D rfl 56 _ [] ZL [] HZ3.out (by simp) rfl (by rw [HDl.out, HZl.out]) (by rw [HDl.out]; exact sizeRLine) HD1.out ?_; intro w9 hx9 hg9))
    have HX9 := Lib.hid (show Blk w9 (w.heap.size + 1) 56 D from hx9.cast (by simp))
    refine bodyPost_ret (v := .tuple #[.agg D.toArray, .bool true]) (results_blk_tmp (g := w.heap.size + 1) rfl _ _ _ _ _ _ rfl rfl HX9.out Tryd.underlying56 rfl (by rw [HDl.out]; exact sizeRLine)) rfl ?_
    have hbf : Below w.heap.size w w9 := HB3.out.grown hg9 HB3.out.size (fun q e => by cases e; omega)
    have e5 : (jumpL x.l n).asked = x.l.asked := by unfold jumpL; rw [HJ.out, if_pos rfl]
    have e6 : (jumpL x.l n).held = [] := by unfold jumpL; rw [HJ.out, if_pos rfl]
    exact ⟨⟨jumpL x.l n, [], none, 0, x.aA, x.ac⟩, by rw [HDe.out], rfl, ⟨jumpL_ok HAt.out.ok n, by rw [e6]; rfl, Rd.nil_ _ _ _ _, fun _ => ⟨rfl, rfl⟩, (fun o ho => by cases ho), by rw [e5]; exact rd_wider (Rd.below HAt.out.asked hbf) hbf.size⟩, (fun o ho => by cases ho), .inr rfl, rfl, hbf⟩
end Go.Proofs.YtmncihhofppkdaaDoor

/- CONTRACT: Chains.Jump of a line. -/
namespace Go.Proofs.YtmncihhofppkdaaDoor
open Go.RowKit Go.Maps
set_option linter.unusedVariables false
set_option linter.unusedSimpArgs false
/-- nothing but two blocks has turned -/
structure Two (w w' : World) (a b : Nat) : Prop where
  os : w'.os = w.os
  tape : w'.tape = w.tape
  output : w'.output = w.output
  size : w.heap.size ≤ w'.heap.size
  block : ∀ k, k < w.heap.size → k ≠ a → k ≠ b → w'.heap[k]? = w.heap[k]?
theorem Two.refl (w : World) (a b : Nat) : Two w w a b := ⟨rfl, rfl, rfl, Nat.le_refl _, fun _ _ _ _ => rfl⟩
theorem Two.left {w w' w'' : World} {a b : Nat} (h : Two w w' a b) (hg : w'.grownBy w'' (some a)) : Two w w'' a b :=
  ⟨hg.os.trans h.os, hg.tape.trans h.tape, hg.output.trans h.output, Nat.le_trans h.size hg.size, fun k hk h1 h2 => (hg.block k (Nat.lt_of_lt_of_le hk h.size) (fun e => by injection e with e; exact h1 e)).trans (h.block k hk h1 h2)⟩
theorem Two.right {w w' w'' : World} {a b : Nat} (h : Two w w' a b) (hg : w'.grownBy w'' (some b)) : Two w w'' a b :=
  ⟨hg.os.trans h.os, hg.tape.trans h.tape, hg.output.trans h.output, Nat.le_trans h.size hg.size, fun k hk h1 h2 => (hg.block k (Nat.lt_of_lt_of_le hk h.size) (fun e => by injection e with e; exact h2 e)).trans (h.block k hk h1 h2)⟩
theorem Below.two {B : Nat} {w0 w w' : World} {a b : Nat} (hb : Below B w0 w) (h : Two w w' a b) (hB : B ≤ w.heap.size) (ha : B ≤ a) (hb' : B ≤ b) : Below B w0 w' :=
  ⟨h.os.trans hb.os, h.tape.trans hb.tape, h.output.trans hb.output, Nat.le_trans hb.size h.size, fun k hk => (h.block k (by omega) (by omega) (by omega)).trans (hb.block k hk)⟩
theorem mid_get {α : Type} (pre a post : List α) (o j : Nat) (ho : pre.length = o) (hj : j < a.length) : (pre ++ (a ++ post))[o + j]? = a[j]? := by
  subst ho
  rw [List.getElem?_append_right (by omega), Nat.add_sub_cancel_left, List.getElem?_append_left hj]
theorem mid_set {α : Type} (pre a post : List α) (o j : Nat) (v : α) (ho : pre.length = o) (hj : j < a.length) : (pre ++ (a ++ post)).set (o + j) v = pre ++ (a.set j v ++ post) := by
  subst ho
  rw [List.set_append, if_neg (by omega), Nat.add_sub_cancel_left, List.set_append, if_pos hj]
/-- a map is emptied -/
theorem mapO_clear {w : World} {g : Nat} {l : List (Int × Value)} (hm : MapO w g l) : ∃ w', (∀ ty, (Builtin.clear_ #[47] ty #[.map (some g)]).run Tryd.prog w = .ok (.tuple #[]) w') ∧ MapO w' g [] ∧ w.grownBy w' (some g) := by
  obtain ⟨es, ck, hb, -⟩ := hm
  refine ⟨{ w with heap := w.heap.setIfInBounds g (.map #[] ck) }, fun ty => ?_, ⟨#[], ck, (MapKept.heap_set hb).1, ⟨by simp, MapKept.stamped_empty _, by simp⟩, Nat.le_refl _, rfl⟩, ⟨rfl, rfl, rfl, by simp, fun k hk hne => (MapKept.heap_set hb).2 k (fun e => hne (by rw [e]))⟩⟩
  simp [Builtin.clear_, run_underlying Tryd.underlying47, MapKept.run_getObj_map hb, MapKept.run_setObj_map _ hb, Result.andThen]
theorem ChAt.jump {w w' : World} {gC gl : Nat} {xs : List LP} (c : ChAt w gC gl xs) (i : Nat) (hi : i < xs.length) (y : LP) (hy : y.OK) (htop : Boxed w' gC 70 (.slice (some ⟨gl, 0, none⟩) xs.length xs.length))
    (hlines : Blk w' gl 81 ((xs.take i).flatMap LP.cells ++ (y.cells ++ (xs.drop (i + 1)).flatMap LP.cells))) (hgm : y.gm = xs[i].gm) (hhp : y.hp = []) (hmap : MapO w' y.gm [])
    (hold : ∀ (j : Nat) (hj : j < xs.length), j ≠ i → HeldAt w' xs[j].gm xs[j].hp) : ChAt w' gC gl (xs.set i y) := by
  have es : xs.set i y = xs.take i ++ y :: xs.drop (i + 1) := List.set_eq_take_append_cons_drop .. |>.trans (if_pos hi)
  have e0 : xs = xs.take i ++ xs[i] :: xs.drop (i + 1) := by rw [← List.drop_eq_getElem_cons hi, List.take_append_drop]
  refine ⟨?_, ?_, ?_, ?_, ?_, ?_⟩
  · rw [List.length_set]; exact htop
  · rw [es, List.flatMap_append, List.flatMap_cons]; exact hlines
  · intro x hx
    rcases List.mem_or_eq_of_mem_set hx with h | rfl
    · exact c.ok x h
    · exact hy
  · intro x hx
    obtain ⟨j, hj, rfl⟩ := List.getElem_of_mem hx
    rw [List.length_set] at hj
    by_cases h : j = i
    · subst h
      rw [List.getElem_set_self]
      rw [hhp]
      exact ⟨hmap, fun p hp => by cases hp⟩
    · rw [List.getElem_set_ne (fun e => h e.symm)]
      exact hold j hj h
  · rw [List.map_set, hgm]
    have : (xs.map LP.gm).set i xs[i].gm = xs.map LP.gm := by
      have h2 : xs[i].gm = (xs.map LP.gm)[i]'(by rw [List.length_map]; exact hi) := by rw [List.getElem_map]
      rw [h2, List.set_getElem_self]
    rw [this]; exact c.gms
  · have hb := c.blks
    rw [e0, List.flatMap_append, List.flatMap_cons] at hb
    rw [es, List.flatMap_append, List.flatMap_cons, hhp]
    refine hb.sublist (List.Sublist.append (List.Sublist.refl _) ?_)
    simp
theorem Marks.stay {M : List Int} {t : Bool} {h : Int} {s : BitVec 64} {l : LineM} (x : Marks M t h s l) (k : LOK l) {n : Int} (hj : jumpB l n = true) (hc : n = 0 ∨ winCheck t h s (n - 1) ≠ 0) : Marks M t h s (jumpL l n) := by
  have hb : l.place ≤ n ∧ n ≤ 4294967295 := by unfold jumpB at hj; exact of_decide_eq_true hj
  have h1 := k.lowp
  have h2 := k.low0
  have hh := x.hi
  have hn : n = l.place := by
    rcases hc with h | h
    · omega
    · by_cases h0 : n = 0
      · omega
      rw [x.inv.check] at h
      unfold refCheck at h
      rw [if_neg (by omega), if_neg (by omega)] at h
      by_cases hm : n - 1 ∈ M
      · cases t with
        | false => rw [(x.inv.none_ rfl).1] at hm; cases hm
        | true =>
          obtain ⟨e, -, -, -, hle, -⟩ := x.inv.some_ rfl
          have := hle _ hm
          omega
      · rw [if_neg hm] at h; exact absurd rfl h
  unfold jumpL
  rw [hj, if_pos rfl]
  refine ⟨x.inv, by rw [hh]; show l.place - 1 = n - 1; omega, fun m hm => ?_⟩
  have hm' : n ≤ m := hm
  exact x.mem m (by omega)
theorem Marks.leap {M : List Int} {t : Bool} {h : Int} {s : BitVec 64} {l : LineM} (x : Marks M t h s l) (k : LOK l) {n : Int} (hj : jumpB l n = true) (hc : winCheck t h s (n - 1) = 0) :
    Marks (M ++ [n - 1]) (winMark t h s (n - 1)).1 (winMark t h s (n - 1)).2.1 (winMark t h s (n - 1)).2.2 (jumpL l n) := by
  have hb : l.place ≤ n ∧ n ≤ 4294967295 := by unfold jumpB at hj; exact of_decide_eq_true hj
  have h1 := k.lowp
  have hh := x.hi
  have hr := hc
  rw [x.inv.check] at hr
  unfold jumpL
  rw [hj, if_pos rfl]
  refine ⟨x.inv.mark _ hr, ?_, fun m hm => ?_⟩
  · rw [hiL_snoc, hh]
    show _ = n - 1
    split <;> omega
  · have hm' : n ≤ m := hm
    show m ∈ M ++ [n - 1] ↔ m ∈ l.asked
    rw [List.mem_append, List.mem_singleton, ← x.mem m (by omega)]
    constructor
    · rintro (h | h)
      · exact h
      · omega
    · exact .inl
set_option maxRecDepth 100000
set_option maxHeartbeats 4000000 in
theorem jump_no (w : World) (gC gl : Nat) (xs : List LP) (hc : ChAt w gC gl xs) (i : Nat) (hi : i < xs.length) (hm : xs.length ≤ 1000) (n : Int) (hj : jumpB xs[i].l n = false) :
    Calls Tryd.prog 23 #[.pointer (some ⟨gC, 0, none⟩), .int .i64 (i : Int), .int .i64 n] w fun e w' => e = .returned (.bool false) ∧ w = w' := by
  have HL := Lib.hid (line_any w gC gl xs hc i hi hm)
  have hx := hc.ok _ (List.getElem_mem hi)
  have hh := hc.held _ (List.getElem_mem hi)
  have hr := hc.range i hi
  obtain ⟨x, hxe⟩ : ∃ x, x = xs[i] := ⟨_, rfl⟩
  rw [← hxe] at hx hh hr
  have c35 := hr 35 _ (lineC_35 hx.lok.len)
  have hpt := hx.lok.top
  have hlp := hx.lok.lowp
  have hl0 := hx.lok.low0
  obtain ⟨P, hP⟩ : ∃ P, P = x.l.place := ⟨_, rfl⟩
  rw [← hP] at c35 hpt hlp
  have HXe := Lib.hid hxe
  have HPe := Lib.hid hP
  have HX := Lib.hid hx
  have HH := Lib.hid hh
  have HR := Lib.hid hr
  have HC := Lib.hid hc
  try rw [← hxe]
  have hnb : ¬ (P ≤ n ∧ n ≤ 4294967295) := by rw [hP]; rw [← hxe] at hj; unfold jumpB at hj; exact of_decide_eq_false hj
  clear hxe hx hh hr hc hP hj
  by_cases h1 : n < P
  · go_enter Tryd.func23, Tryd.ntmps23
    go_wp2_with fail
    refine HL.out.mono ?_
    rintro e w2 ⟨rfl, rfl⟩
    go_wp2_with fail
    go_ret
    exact ⟨rfl, rfl⟩
  · have h1' : ¬ (n < P) := h1
    have h2 : n > 4294967295 := by omega
    go_enter Tryd.func23, Tryd.ntmps23
    go_wp2_with fail
    refine HL.out.mono ?_
    rintro e w2 ⟨rfl, rfl⟩
    go_wp2_with fail
    go_ret
    exact ⟨rfl, rfl⟩
set_option maxHeartbeats 8000000 in
theorem jump_yes (w : World) (gC gl : Nat) (xs : List LP) (hc : ChAt w gC gl xs) (i : Nat) (hi : i < xs.length) (hm : xs.length ≤ 1000) (n : Int) (hj : jumpB xs[i].l n = true) :
    Calls Tryd.prog 23 #[.pointer (some ⟨gC, 0, none⟩), .int .i64 (i : Int), .int .i64 n] w fun e w' => e = .returned (.bool true) ∧ ∃ y, LP.l y = jumpL xs[i].l n ∧ ChAt w' gC gl (xs.set i y) ∧ y.hp = [] ∧ y.gm = xs[i].gm ∧ Two w w' gl xs[i].gm := by
  have HL := Lib.hid (line_any w gC gl xs hc i hi hm)
  have hx := hc.ok _ (List.getElem_mem hi)
  have hh := hc.held _ (List.getElem_mem hi)
  have hr := hc.range i hi
  obtain ⟨x, hxe⟩ : ∃ x, x = xs[i] := ⟨_, rfl⟩
  rw [← hxe] at hx hh hr
  have c35 := hr 35 _ (lineC_35 hx.lok.len)
  have hpt := hx.lok.top
  have hlp := hx.lok.lowp
  have hl0 := hx.lok.low0
  obtain ⟨P, hP⟩ : ∃ P, P = x.l.place := ⟨_, rfl⟩
  rw [← hP] at c35 hpt hlp
  have HXe := Lib.hid hxe
  have HPe := Lib.hid hP
  have HX := Lib.hid hx
  have HH := Lib.hid hh
  have HR := Lib.hid hr
  have HC := Lib.hid hc
  try rw [← hxe]
  have hb : P ≤ n ∧ n ≤ 4294967295 := by rw [hP]; rw [← hxe] at hj; unfold jumpB at hj; exact of_decide_eq_true hj
  rw [← hxe] at hj
  have HJ := Lib.hid hj
  obtain ⟨hb1, hb2⟩ := hb
  obtain ⟨hsp, hpl⟩ := flat_split xs hc.ok i hi
  rw [← hxe] at hsp
  obtain ⟨pre, hpre⟩ : ∃ pre, pre = (xs.take i).flatMap LP.cells := ⟨_, rfl⟩
  obtain ⟨post, hpost⟩ : ∃ post, post = (xs.drop (i + 1)).flatMap LP.cells := ⟨_, rfl⟩
  rw [← hpre, ← hpost] at hsp
  rw [← hpre, Nat.mul_comm] at hpl
  have HPl := Lib.hid hpl
  have HPre := Lib.hid hpre
  have HPost := Lib.hid hpost
  have hxl := x.cells_len hx
  have f35 : w.frozen? ⟨gl, i * 37 + 35, none⟩ = false := hc.lines.frozen _
  have c36 := hr 36 _ (lineC_36 hx.lok.len)
  have hL1 : Blk (w.setCell ⟨gl, i * 37 + 35, none⟩ (.int .i64 n)) gl 81 (pre ++ (lineC x.t x.h x.s x.l.link n (.map (some x.gm)) ++ post)) := by
    refine ((hc.lines.cast hsp).set_ (i * 37 + 35) (.int .i64 n)).cast ?_
    rw [mid_set pre x.cells post (i * 37) 35 _ hpl (by rw [hxl]; decide)]
    show pre ++ ((lineC x.t x.h x.s x.l.link x.l.place (.map (some x.gm))).set 35 _ ++ post) = _
    rw [lineC_set35 hx.lok.len]
  have hg1 := grownBy_set w gl (i * 37 + 35) (.int .i64 n)
  have c36' : (w.setCell ⟨gl, i * 37 + 35, none⟩ (.int .i64 n)).cell? ⟨gl, i * 37 + 36, none⟩ = some (.map (some x.gm)) := by
    refine hL1.cell _ ?_
    rw [mid_get pre _ post (i * 37) 36 hpl (by rw [lineC_len _ _ _ _ _ _ hx.lok.len]; decide), lineC_36 hx.lok.len]
  have hgl : gl < w.heap.size := hc.lines.lt
  have hgC : gC < w.heap.size := hc.top.lt
  have hgm : x.gm < w.heap.size := hh.map.lt
  have hmne : x.gm ≠ gl := hh.map.not_cells hc.lines
  have hm1 : MapO (w.setCell ⟨gl, i * 37 + 35, none⟩ (.int .i64 n)) x.gm (mapL x.hp) := hh.map.kept hg1 (fun e => by injection e with e; exact hmne e)
  have htop1 : Boxed (w.setCell ⟨gl, i * 37 + 35, none⟩ (.int .i64 n)) gC 70 (.slice (some ⟨gl, 0, none⟩) xs.length xs.length) := hc.top.kept hg1 (fun e => by
    injection e with e
    have h2 : w.heap[gl]? = some (.cells (xs.flatMap LP.cells).toArray 81 (0, 0)) := hc.lines
    have h3 : w.heap[gC]? = some (.cells #[.slice (some ⟨gl, 0, none⟩) xs.length xs.length] 70 (0, 0)) := hc.top
    rw [← e, h3] at h2; injection h2 with h2; injection h2 with _ hT _; exact absurd hT (by decide))
  have hold1 : ∀ y ∈ xs, HeldAt (w.setCell ⟨gl, i * 37 + 35, none⟩ (.int .i64 n)) y.gm y.hp := fun y hy => (hc.held y hy).cells hc.lines (by decide) hg1
  have c36s := c36'
  obtain ⟨w1, hw1⟩ : ∃ w1, w1 = w.setCell ⟨gl, i * 37 + 35, none⟩ (.int .i64 n) := ⟨_, rfl⟩
  rw [← hw1] at hL1 hg1 c36' hm1 htop1 hold1
  obtain ⟨w2, hclr, hm2, hg2⟩ := mapO_clear hm1
  rw [hw1] at hclr
  obtain ⟨es, ck, hob⟩ := hm1.obj
  have hL2 : Blk w2 gl 81 (pre ++ (lineC x.t x.h x.s x.l.link n (.map (some x.gm)) ++ post)) := hL1.grown hg2 (fun e => by injection e with e; exact hmne e.symm)
  have htop2 : Boxed w2 gC 70 (.slice (some ⟨gl, 0, none⟩) xs.length xs.length) := htop1.kept hg2 (fun e => by
    injection e with e
    have h3 : w1.heap[gC]? = some (.cells #[.slice (some ⟨gl, 0, none⟩) xs.length xs.length] 70 (0, 0)) := htop1
    rw [← e, h3] at hob; cases hob)
  have hold2 : ∀ (j : Nat) (hj : j < xs.length), j ≠ i → HeldAt w2 xs[j].gm xs[j].hp := fun j hj hne => by
    have h1 := hold1 xs[j] (List.getElem_mem hj)
    have hgne : xs[j].gm ≠ x.gm := fun e => by
      rw [HXe.out] at e
      have h2 : (xs.map LP.gm)[j]'(by rw [List.length_map]; exact hj) = (xs.map LP.gm)[i]'(by rw [List.length_map]; exact hi) := by rw [List.getElem_map, List.getElem_map]; exact e
      rcases Nat.lt_or_gt_of_ne hne with h9 | h9
      · exact List.pairwise_iff_getElem.1 hc.gms j i (by rw [List.length_map]; exact hj) (by rw [List.length_map]; exact hi) h9 h2
      · exact List.pairwise_iff_getElem.1 hc.gms i j (by rw [List.length_map]; exact hi) (by rw [List.length_map]; exact hj) h9 h2.symm
    exact ⟨h1.map.kept hg2 (fun e => by injection e with e; exact hgne e), fun p hp => (h1.mem p hp).grown hg2 (fun e => by
      injection e with e
      have h4 := h1.mem p hp
      unfold Arr at h4
      rw [← e, h4] at hob; cases hob)⟩
  have htw : Two w w2 gl x.gm := (Two.left (Two.refl w gl x.gm) hg1).right hg2
  have HL2 := Lib.hid hL2
  have HTop2 := Lib.hid htop2
  have HOld2 := Lib.hid hold2
  have HTw := Lib.hid htw
  have HM2 := Lib.hid hm2
  have HWin := Lib.hid (show WinO w2 gl (i * 37) 81 (pre ++ (lineC x.t x.h x.s x.l.link n (.map (some x.gm)) ++ post)) x.t x.h x.s from
    ⟨hL2, by have h := mid_get pre (lineC x.t x.h x.s x.l.link n (.map (some x.gm))) post (i * 37) 0 hpl (by rw [lineC_len _ _ _ _ _ _ hx.lok.len]; decide); rw [Nat.add_zero] at h; rw [h]; rfl,
      by rw [mid_get pre (lineC x.t x.h x.s x.l.link n (.map (some x.gm))) post (i * 37) 1 hpl (by rw [lineC_len _ _ _ _ _ _ hx.lok.len]; decide)]; rfl,
      by rw [mid_get pre (lineC x.t x.h x.s x.l.link n (.map (some x.gm))) post (i * 37) 2 hpl (by rw [lineC_len _ _ _ _ _ _ hx.lok.len]; decide)]; rfl⟩)
  have HMk := Lib.hid hx.marks
  have hn1 : ¬ (n < P) := by omega
  have hn2 : ¬ (n > 4294967295) := by omega
  have hclr' := hclr
  clear hxe hx hh hr hc hP hj hsp hpl hpre hpost hxl hL1 hg1 hm1 htop1 hold1 hw1 hm2 hg2 hob hL2 htop2 hold2 htw c36 hclr'
  by_cases h0 : n ≤ 0
  · have hn0 : n = 0 := by omega
    have HN0 := Lib.hid hn0
    have hn3 : ¬ (n > 0) := by omega
    clear hn0
    go_enter Tryd.func23, Tryd.ntmps23
    go_wp2_with fail
    refine HL.out.mono ?_
    rintro e w9 ⟨rfl, rfl⟩
    go_wp2_with fail
    go_ret
    refine ⟨rfl, ⟨jumpL x.l n, [], x.gm, x.t, x.h, x.s, x.M⟩, rfl, ?_, rfl, rfl, HTw.out⟩
    refine HC.out.jump i hi _ ⟨jumpL_ok HX.out.lok n, HMk.out.stay HX.out.lok HJ.out (.inl HN0.out), by show [] = (jumpL x.l n).held; unfold jumpL; rw [HJ.out, if_pos rfl], List.nodup_nil⟩ HTop2.out ?_ (by rw [HXe.out]) rfl HM2.out HOld2.out
    rw [← HPre.out, ← HPost.out]
    refine HL2.out.cast ?_
    unfold LP.cells jumpL
    rw [HJ.out, if_pos rfl]
  · have hn3 : n > 0 := by omega
    have hck := wcheckO gl (i * 37) 81 _ x.t x.h x.s (n - 1) w2 HWin.out HMk.out.bound
    by_cases hcz : winCheck x.t x.h x.s (n - 1) = 0
    · have hmk := wmarkO gl (i * 37) 81 _ x.t x.h x.s (n - 1) w2 HWin.out HMk.out.bound
      rw [hcz, errV_zero] at hck hmk
      have HCk := Lib.hid hck
      have HMkC := Lib.hid hmk
      have HCz := Lib.hid hcz
      clear hck hmk hcz
      go_enter Tryd.func23, Tryd.ntmps23
      go_wp2_with fail
      refine HL.out.mono ?_
      rintro e w9 ⟨rfl, rfl⟩
      go_wp2_with fail
      refine HCk.out.mono ?_
      rintro e w9 ⟨rfl, rfl⟩
      go_wp2_with fail
      refine HMkC.out.mono ?_
      rintro e w3 ⟨rfl, -, h3⟩
      obtain ⟨hb3, hg3⟩ := h3 trivial
      have HB3 := Lib.hid hb3
      have HG3 := Lib.hid hg3
      clear h3 hb3 hg3
      go_wp2_with fail
      go_ret
      refine ⟨rfl, ⟨jumpL x.l n, [], x.gm, (winMark x.t x.h x.s (n - 1)).1, (winMark x.t x.h x.s (n - 1)).2.1, (winMark x.t x.h x.s (n - 1)).2.2, x.M ++ [n - 1]⟩, rfl, ?_, rfl, rfl, HTw.out.left HG3.out⟩
      refine HC.out.jump i hi _ ⟨jumpL_ok HX.out.lok n, HMk.out.leap HX.out.lok HJ.out HCz.out, by show [] = (jumpL x.l n).held; unfold jumpL; rw [HJ.out, if_pos rfl], List.nodup_nil⟩ (HTop2.out.kept HG3.out (fun e => by
        injection e with e
        have h2 : w2.heap[gl]? = some (.cells _ 81 (0, 0)) := HL2.out
        have h3 : w2.heap[gC]? = some (.cells #[.slice (some ⟨gl, 0, none⟩) xs.length xs.length] 70 (0, 0)) := HTop2.out
        rw [← e, h3] at h2; injection h2 with h2; injection h2 with _ hT _; exact absurd hT (by decide))) ?_ (by rw [HXe.out]) rfl (HM2.out.kept HG3.out (fun e => by injection e with e; exact hmne e)) (fun j hj hne => (HOld2.out j hj hne).cells HL2.out (by decide) HG3.out)
      rw [← HPre.out, ← HPost.out]
      refine HB3.out.cast ?_
      unfold LP.cells jumpL
      rw [HJ.out, if_pos rfl]
      unfold setW
      have hl37 := lineC_len x.t x.h x.s x.l.link n (.map (some x.gm)) HX.out.lok.len
      have e0 := mid_set pre (lineC x.t x.h x.s x.l.link n (.map (some x.gm))) post (i * 37) 0 (.bool (winMark x.t x.h x.s (n - 1)).1) HPl.out (by rw [hl37]; decide)
      rw [Nat.add_zero] at e0
      rw [e0, mid_set pre _ post (i * 37) 1 _ HPl.out (by rw [List.length_set, hl37]; decide), mid_set pre _ post (i * 37) 2 _ HPl.out (by rw [List.length_set, List.length_set, hl37]; decide)]
      rfl
    · rw [errV_pos hcz] at hck
      have HCk := Lib.hid hck
      have HCz := Lib.hid hcz
      clear hck hcz
      go_enter Tryd.func23, Tryd.ntmps23
      go_wp2_with fail
      refine HL.out.mono ?_
      rintro e w9 ⟨rfl, rfl⟩
      go_wp2_with fail
      refine HCk.out.mono ?_
      rintro e w9 ⟨rfl, rfl⟩
      go_wp2_with fail
      go_ret
      refine ⟨rfl, ⟨jumpL x.l n, [], x.gm, x.t, x.h, x.s, x.M⟩, rfl, ?_, rfl, rfl, HTw.out⟩
      refine HC.out.jump i hi _ ⟨jumpL_ok HX.out.lok n, HMk.out.stay HX.out.lok HJ.out (.inr HCz.out), by show [] = (jumpL x.l n).held; unfold jumpL; rw [HJ.out, if_pos rfl], List.nodup_nil⟩ HTop2.out ?_ (by rw [HXe.out]) rfl HM2.out HOld2.out
      rw [← HPre.out, ← HPost.out]
      refine HL2.out.cast ?_
      unfold LP.cells jumpL
      rw [HJ.out, if_pos rfl]
end Go.Proofs.YtmncihhofppkdaaDoor

/- CONTRACT: burrownum.Over. -/
namespace Go.Proofs.YtmncihhofppkdaaDoor
open Go.RowKit
set_option linter.unusedVariables false
set_option linter.unusedSimpArgs false

set_option maxRecDepth 100000 in
set_option maxHeartbeats 1000000 in
theorem over_any {w : World} {B : Nat} {v : Value} {xs : List (BitVec 8)} (ho : Own b8 w B 5 v xs) (hx : xs.length ≤ 1000000000) :
    Calls Tryd.prog 26 #[v] w fun e w' => e = .returned (.tuple #[]) ∧ w.grownBy w' v.ownBlock := by
  obtain ⟨n, hn⟩ : ∃ n, n = xs.length := ⟨_, rfl⟩
  by_cases h0 : n = 0
  · obtain ⟨A, c, rfl, -, -, -, -⟩ := ho.shape' (n := 0) (by omega)
    clear ho hx hn h0
    go_enter Tryd.func26, Tryd.ntmps26
    go_wp2
    go_loopw [2, 5] (fun cv iv wr => iv = .int .i64 0 ∧ wr = w) (fun _ iv _ => 0)
    case atStart => exact ⟨rfl, rfl⟩
    case round =>
      obtain ⟨rfl, rfl⟩ := hrel
      go_wp2
      go_end0
      exact ⟨rfl, World.grownBy.refl _ _⟩
  · obtain ⟨g, cap, rfl, hg, hlt, hcap⟩ := ho.form' hn.symm (by omega)
    have HO := Lib.hid ho
    have Hn := Lib.hid hn
    rw [← hn] at hx
    clear ho hn h0
    go_enter Tryd.func26, Tryd.ntmps26
    go_wp2
    go_loopw [2, 5] (fun cv iv wr => ∃ (k : Nat) (ys : List (BitVec 8)), k ≤ n ∧ iv = .int .i64 (k : Int) ∧ ys.length = n ∧ Own b8 wr B 5 (.slice (some ⟨g, 0, none⟩) n cap) ys ∧ w.grownBy wr (some g)) (fun _ iv _ => n - (intOf iv).toNat)
    case atStart => exact ⟨0, xs, by omega, rfl, Hn.out.symm, HO.out, World.grownBy.refl _ _⟩
    case round =>
      obtain ⟨k, ys, hk, rfl, hyl, hown, hgr⟩ := hrel
      by_cases hlt' : k < n
      · have hlt2 : (k : Int) < (n : Int) := by omega
        have hc := hown.at_ (k := k) (by rw [hyl]; exact hlt')
        obtain ⟨x, hx'⟩ : ∃ x, x = ys[k]'(by rw [hyl]; exact hlt') := ⟨_, rfl⟩
        rw [← hx'] at hc
        have c1 : wr.cell? ⟨g, k, none⟩ = some (.int .u8 (bv x)) := hc.1
        have f1 := hc.2
        have Hs := Lib.hid (hown.set_ k (x ^^^ 255#8))
        have Hyl := Lib.hid hyl
        have Hgr := Lib.hid hgr
        clear hc hx' hown hyl hgr
        go_wp2
        go_roundw
        case rel => exact ⟨k + 1, ys.set k (x ^^^ 255#8), by omega, by go_num, by rw [List.length_set]; exact Hyl.out, Hs.out.1, grownBy_trans Hgr.out Hs.out.2 (fun _ e => .inl e)⟩
        case measure => simp [intOf]; omega
      · obtain rfl : k = n := by omega
        go_wp2
        go_end0
        exact ⟨rfl, hgr⟩
end Go.Proofs.YtmncihhofppkdaaDoor

/- CONTRACTS for ChainPlays: chains that were made of any number of leaves; a nonce is written over; alike keys. -/
namespace Go.Proofs.YtmncihhofppkdaaDoor
open Go.RowKit
set_option linter.unusedVariables false
set_option linter.unusedSimpArgs false
set_option maxRecDepth 100000 in
set_option maxHeartbeats 2000000 in
theorem newbad_any (w : World) (s : List (BitVec 8)) (n : Int) (n0 : -9223372036854775808 ≤ n) (n1 : n < 9223372036854775808) (hn : soundB n = false) :
    Calls Tryd.prog 9 #[arrV b8 s, .int .i64 n] w fun e w' => e = .returned (.pointer (some ⟨w.heap.size + 1, 0, none⟩)) ∧ Boxed w' (w.heap.size + 1) 70 (.slice none 0 0) ∧ Below w.heap.size w w' := by
  obtain ⟨w1, hw1⟩ : ∃ w1, w1 = (w.alloc (.cells (s.map b8).toArray 23)).alloc (.cells #[.slice none 0 0] 70) := ⟨_, rfl⟩
  have HC1 := Lib.hid (show Boxed w1 (w.heap.size + 1) 70 (.slice none 0 0) by rw [hw1]; have h := Boxed.new (w.alloc (.cells (s.map b8).toArray 23)) 70 (.slice none 0 0); rw [World.size_alloc] at h; exact h)
  have HK1 := Lib.hid (show Below w.heap.size w w1 by rw [hw1]; exact ((Below.refl _ w).alloc (Nat.le_refl _) _).alloc (by simp) _)
  have HW1 := Lib.hid hw1
  have HR := Lib.hid (root_any n n0 (by omega) w1)
  have hrt : rootV n = -1 := by unfold rootV; rw [if_neg (by rw [hn]; decide)]
  rw [arrV_mk]
  clear hw1 hn
  go_enter Tryd.func9, Tryd.ntmps9
  go_upto_region 2 with fail
  rw [← HW1.out]
  go_wp2_with fail
  refine HR.out.mono ?_
  rintro e w2 ⟨rfl, rfl⟩
  rw [hrt]
  go_wp2_with fail
  go_ret
  exact ⟨rfl, HC1.out, HK1.out⟩
/-- chains with these lines; none: they hold no lines -/
def ChX (w : World) (gC gl : Nat) (xs : List LP) : Prop := (xs = [] ∧ Boxed w gC 70 (.slice none 0 0)) ∨ ChAt w gC gl xs
theorem ChX.below {w w' : World} {gC gl : Nat} {xs : List LP} (h : ChX w gC gl xs) (hb : Below w.heap.size w w') : ChX w' gC gl xs := by
  rcases h with ⟨h1, h2⟩ | h
  · exact .inl ⟨h1, (hb.block _ h2.lt).trans h2⟩
  · exact .inr (h.below hb)
theorem ChX.at_ {w : World} {gC gl : Nat} {xs : List LP} (h : ChX w gC gl xs) {i : Nat} (hi : i < xs.length) : ChAt w gC gl xs := by
  rcases h with ⟨h1, h2⟩ | h
  · subst h1; exact absurd hi (by simp)
  · exact h
theorem ChX.none_ {w : World} {gC gl : Nat} {xs : List LP} (h : ChX w gC gl xs) (j : Int) (hj : j < 0 ∨ (xs.length : Int) ≤ j) :
    Calls Tryd.prog 31 #[.pointer (some ⟨gC, 0, none⟩), .int .i64 j] w fun e w' => e = .returned (.pointer none) ∧ w = w' := by
  rcases h with ⟨h1, h2⟩ | h
  · exact line_empty w gC h2 j
  · exact line_out w gC gl xs h j hj
set_option maxRecDepth 100000 in
set_option maxHeartbeats 2000000 in
/-- a nonce in the middle of an array is written over -/
theorem over_mid (w : World) (b : Nat) (pre ns : List (BitVec 8)) (hp : pre.length = 32) (hn : ns.length = 12) (hA : Arr b8 w b 5 (pre ++ ns)) :
    Calls Tryd.prog 26 #[.slice (some ⟨b, 32, none⟩) 12 12] w fun e w' => e = .returned (.tuple #[]) ∧ w.grownBy w' (some b) := by
  have HA := Lib.hid hA
  have HP := Lib.hid hp
  have HN := Lib.hid hn
  clear hA hp hn
  go_enter Tryd.func26, Tryd.ntmps26
  go_wp2
  go_loopw [2, 5] (fun cv iv wr => ∃ (k : Nat) (ys : List (BitVec 8)), k ≤ 12 ∧ iv = .int .i64 (k : Int) ∧ ys.length = 12 ∧ Arr b8 wr b 5 (pre ++ ys) ∧ w.grownBy wr (some b)) (fun _ iv _ => 12 - (intOf iv).toNat)
  case atStart => exact ⟨0, ns, by omega, rfl, HN.out, HA.out, World.grownBy.refl _ _⟩
  case round =>
    obtain ⟨k, ys, hk, rfl, hyl, hown, hgr⟩ := hrel
    by_cases hlt : k < 12
    · have hlt2 : (k : Int) < 12 := by omega
      have hg : (pre ++ ys)[32 + k]? = some (ys[k]'(by rw [hyl]; exact hlt)) := by
        rw [← HP.out, List.getElem?_append_right (by omega), Nat.add_sub_cancel_left, List.getElem?_eq_getElem]
      have c1 : wr.cell? ⟨b, 32 + k, none⟩ = some (.int .u8 (bv (ys[k]'(by rw [hyl]; exact hlt)))) := hown.at_ hg
      have f1 := hown.frozen (32 + k)
      have hset := (hown.set_ (32 + k) (ys[k]'(by rw [hyl]; exact hlt) ^^^ 255#8)).cast (show _ = pre ++ ys.set k (ys[k]'(by rw [hyl]; exact hlt) ^^^ 255#8) by
        rw [← HP.out, List.set_append, if_neg (by omega), Nat.add_sub_cancel_left])
      obtain ⟨x, hx'⟩ : ∃ x, x = ys[k]'(by rw [hyl]; exact hlt) := ⟨_, rfl⟩
      rw [← hx'] at c1 hset
      have Hs := Lib.hid hset
      have Hgs := Lib.hid (grownBy_set wr b (32 + k) (b8 (x ^^^ 255#8)))
      have Hyl := Lib.hid hyl
      have Hgr := Lib.hid hgr
      clear hset hx' hown hyl hgr hg
      go_wp2
      go_roundw
      case rel => exact ⟨k + 1, ys.set k (x ^^^ 255#8), by omega, by go_num, by rw [List.length_set]; exact Hyl.out, Hs.out, grownBy_trans Hgr.out Hgs.out (fun _ e => .inl e)⟩
      case measure => simp [intOf]; omega
    · obtain rfl : k = 12 := by omega
      go_wp2
      go_end0
      exact ⟨rfl, hgr⟩
set_option maxRecDepth 100000 in
theorem over_nil (w : World) : Calls Tryd.prog 26 #[.slice none 0 0] w fun e w' => e = .returned (.tuple #[]) ∧ w = w' := by
  go_enter Tryd.func26, Tryd.ntmps26
  go_wp2
  go_loopw [2, 5] (fun cv iv wr => iv = .int .i64 0 ∧ wr = w) (fun _ iv _ => 0)
  case atStart => exact ⟨rfl, rfl⟩
  case round =>
    obtain ⟨rfl, rfl⟩ := hrel
    go_wp2
    go_end0
    exact ⟨rfl, rfl⟩
set_option maxRecDepth 100000 in
set_option maxHeartbeats 2000000 in
/-- keys that are alike: of nonces of one length, which read alike -/
theorem same_gen (w : World) (n : Int) (key ns : List (BitVec 8)) (hk : key.length = 32) (m : Nat) (hn : ns.length = m) (B1 B2 c1 c2 : Nat) (A1 A2 : Option Addr) (h1 : Rd b8 w B1 A1 ns) (hB1 : B1 ≤ w.heap.size) (h2 : Rd b8 w B2 A2 ns) (hB2 : B2 ≤ w.heap.size) :
    Calls Tryd.prog 12 #[.agg (onceC n key (.slice A1 m c1)).toArray, .agg (onceC n key (.slice A2 m c2)).toArray] w fun e w' => e = .returned (.bool true) ∧ Below w.heap.size w w' := by
  obtain ⟨C1, hC1⟩ : ∃ C1, C1 = onceC n key (.slice A1 m c1) := ⟨_, rfl⟩
  obtain ⟨C2, hC2⟩ : ∃ C2, C2 = onceC n key (.slice A2 m c2) := ⟨_, rfl⟩
  obtain ⟨w2, hw2⟩ : ∃ w2, w2 = (w.alloc (.cells C1.toArray 32)).alloc (.cells C2.toArray 38) := ⟨_, rfl⟩
  have b1 : Blk w2 w.heap.size 32 (onceC n key (.slice A1 m c1)) := by rw [hw2, ← hC1]; exact (Blk.new w _ _).alloc _
  have b2 : Blk w2 (w.heap.size + 1) 38 (onceC n key (.slice A2 m c2)) := by rw [hw2, ← hC2]; exact Blk.at_size _ _ (by simp)
  have HB2 := Lib.hid (show Below w.heap.size w w2 by rw [hw2]; exact ((Below.refl _ w).alloc (Nat.le_refl _) _).alloc (by simp) _)
  have c0 := b1.cell 0 (u := .int .i64 n) rfl
  have d0 := b2.cell 0 (u := .int .i64 n) rfl
  have c33 := b1.cell 33 (u := .slice A1 m c1) (by unfold onceC; rw [List.getElem?_cons_succ, List.getElem?_append_right (by rw [List.length_map]; omega), List.length_map, hk]; rfl)
  have d33 := b2.cell 33 (u := .slice A2 m c2) (by unfold onceC; rw [List.getElem?_cons_succ, List.getElem?_append_right (by rw [List.length_map]; omega), List.length_map, hk]; rfl)
  have r1 : w2.rangeAt w.heap.size 1 (key.map b8) := by
    have h := b1.range 1 32
    rwa [show ((onceC n key (.slice A1 m c1)).drop 1).take 32 = key.map b8 by unfold onceC; rw [List.drop_succ_cons, List.drop_zero, List.take_left' (by rw [List.length_map, hk])]] at h
  have r2 : w2.rangeAt (w.heap.size + 1) 1 (key.map b8) := by
    have h := b2.range 1 32
    rwa [show ((onceC n key (.slice A2 m c2)).drop 1).take 32 = key.map b8 by unfold onceC; rw [List.drop_succ_cons, List.drop_zero, List.take_left' (by rw [List.length_map, hk])]] at h
  have HR1 := Lib.hid r1
  have HR2 := Lib.hid r2
  have HS1 := Lib.hid (h1.below (HB2.out.mono hB1))
  have HS2 := Lib.hid (h2.below (HB2.out.mono hB2))
  have HN := Lib.hid hn
  have HK := Lib.hid hk
  have HW2 := Lib.hid hw2
  rw [← hC1, ← hC2]
  clear hC1 hC2 b1 b2 r1 r2 h1 h2 hn hk hw2
  go_enter Tryd.func12, Tryd.ntmps12
  go_upto_region 1 with fail
  rw [← HW2.out]
  have hi32 : (Tryd.prog.info? 29).map (·.size) = some (key.map b8).length := by rw [List.length_map, HK.out]; exact sizeKey
  have HI := Lib.hid hi32
  clear hi32
  have heq : ∀ w : World, (Op.equalIn 10000 29 (.agg (key.map b8).toArray) (.agg (key.map b8).toArray)).run Tryd.prog w = .ok true w := fun w => by
    rw [map_b8_cell, run_equalIn_bytes w 9998 29 5 32 Tryd.underlying29 Tryd.underlying5 (fun _ => by kernel_rfl) (key.map u8) (key.map u8) (by simpa using HK.out) (by simpa using HK.out), u8_beq, beq_self_eq_true]
  go_wp2_with (first
    | (refine wpList_load_midw (by first | rfl | go_simp) 29 (.tmp 11) rfl w.heap.size 1 rfl (key.map b8) _ HR1.out Tryd.underlying29 rfl HI.out ?_)
    | (refine wpList_load_midw (by first | rfl | go_simp) 29 (.tmp 13) rfl (w.heap.size + 1) 1 rfl (key.map b8) _ HR2.out Tryd.underlying29 rfl HI.out ?_))
  refine (same_any c1 c2 HS1.out HS2.out HN.out HN.out).mono ?_
  rintro e w' ⟨rfl, rfl⟩
  rw [beq_self_eq_true]
  go_wp2_with fail
  first
    | exact ⟨by simp, .bool true, by kernel_rfl, rfl, HB2.out⟩
    | (go_ret; exact ⟨rfl, HB2.out⟩)
end Go.Proofs.YtmncihhofppkdaaDoor

/- The chains and the reference's lines together in memory; Next of a line that refuses its own place. -/
namespace Go.Proofs.YtmncihhofppkdaaDoor
open Go.RowKit
set_option linter.unusedVariables false
set_option linter.unusedSimpArgs false

set_option maxRecDepth 100000
set_option maxHeartbeats 4000000 in
theorem next_bad (w : World) (gC gl : Nat) (xs : List LP) (hc : ChAt w gC gl xs) (i : Nat) (hi : i < xs.length) (hm : xs.length ≤ 1000) (hE : takeE xs[i].l xs[i].l.place ≠ 0) :
    Calls Tryd.prog 11 #[.pointer (some ⟨gC, 0, none⟩), .int .i64 (i : Int)] w fun e w' => e = .returned (.tuple #[.agg zeroOnce.toArray, errV (takeE xs[i].l xs[i].l.place)]) ∧ Below w.heap.size w w' := by
  obtain ⟨w1, hw1⟩ : ∃ w1, w1 = w.alloc (.cells zeroOnce.toArray 32) := ⟨_, rfl⟩
  have HZ1 := Lib.hid (show Blk w1 w.heap.size 32 zeroOnce by rw [hw1]; exact Blk.new _ _ _)
  have HK1 := Lib.hid (show Below w.heap.size w w1 by rw [hw1]; exact (Below.refl _ w).alloc (Nat.le_refl _) _)
  have hz1 : w1.heap.size = w.heap.size + 1 := by rw [hw1]; simp
  have HW1 := Lib.hid hw1
  clear hw1
  have HC1 := Lib.hid (hc.below HK1.out)
  have HL := Lib.hid (line_any w1 gC gl xs HC1.out i hi hm)
  have hx := hc.ok _ (List.getElem_mem hi)
  have c35 := HC1.out.range i hi 35 _ (lineC_35 hx.lok.len)
  have hT := ctake_bad w1 gC gl xs HC1.out i hi hm _ hE
  have hNe := errV_pos hE
  generalize takeE xs[i].l xs[i].l.place = E at hT hNe hE ⊢
  generalize xs[i].l.place = p at c35 hT ⊢
  rw [hNe] at hT ⊢
  have HT := Lib.hid hT
  clear hE hx hc hT hNe
  go_enter Tryd.func11, Tryd.ntmps11
  go_upto_region 1 with fail
  have hw1 := HW1.out
  simp only [show zeroOnce.toArray = #[Value.int .i64 0, Value.int .u8 0, Value.int .u8 0, Value.int .u8 0, Value.int .u8 0, Value.int .u8 0, Value.int .u8 0, Value.int .u8 0, Value.int .u8 0, Value.int .u8 0, Value.int .u8 0, Value.int .u8 0, Value.int .u8 0, Value.int .u8 0, Value.int .u8 0, Value.int .u8 0, Value.int .u8 0, Value.int .u8 0, Value.int .u8 0, Value.int .u8 0, Value.int .u8 0, Value.int .u8 0, Value.int .u8 0, Value.int .u8 0, Value.int .u8 0, Value.int .u8 0, Value.int .u8 0, Value.int .u8 0, Value.int .u8 0, Value.int .u8 0, Value.int .u8 0, Value.int .u8 0, Value.int .u8 0, Value.slice none 0 0] from rfl] at hw1
  rw [← hw1]
  clear hw1
  go_wp2_with fail
  refine HL.out.mono ?_
  rintro e w2 ⟨rfl, rfl⟩
  go_wp2_with fail
  refine HT.out.mono ?_
  rintro e w3 ⟨rfl, hb3⟩
  have HZ3 := Lib.hid (HZ1.out.below hb3 (by omega))
  have HB3 := Lib.hid (HK1.out.trans (hb3.mono (by omega)))
  clear hb3
  go_wp2_with (refine wpList_store_piece rfl 32 (.tmp 4) (.tmp 21) rfl w.heap.size 0 rfl zeroOnce rfl 32 _ [] zeroOnce [] HZ3.out (by simp) rfl rfl sizeOnce (onceC_one _ _ _ _ _) ?_; intro w9 hx9 hg9)
  have HX9 := Lib.hid (show Blk w9 w.heap.size 32 zeroOnce from hx9.cast (by simp))
  refine bodyPost_ret (v := .tuple #[.agg zeroOnce.toArray, .iface 60 (.int .i64 (E : Int))]) (results_blk_tmp (g := w.heap.size) rfl _ _ _ _ _ _ rfl rfl HX9.out Tryd.underlying32 rfl sizeOnce) rfl ?_
  exact ⟨rfl, HB3.out.grown hg9 HB3.out.size (fun k e => by cases e; exact Nat.le_refl _)⟩
/-- the chains, the reference's lines -/
structure PlayAt (w : World) (base top gC gl gL : Nat) (spare : List Value) (xs : List LP) (ls : List RL) : Prop where
  ch : ChX w gC gl xs
  len : ls.length = xs.length
  xlen : xs.length ≤ 32
  lines : Blk w gL 56 (ls.flatMap RL.cells ++ spare)
  eq : ∀ (i : Nat) (h1 : i < xs.length) (h2 : i < ls.length), ls[i].l = xs[i].l
  at_ : ∀ x ∈ ls, x.At w
  gms : ∀ x ∈ xs, base ≤ LP.gm x
  sep : ∀ x ∈ ls, ∀ o ∈ x.rs, ∀ y ∈ xs, o.r ∉ (LP.hp y).map Prod.snd
  farh : ∀ x ∈ ls, ∀ (b off : Nat), RL.hA x = some ⟨b, off, none⟩ → top ≤ b
  fara : ∀ x ∈ ls, ∀ (b off : Nat), RL.aA x = some ⟨b, off, none⟩ → top ≤ b
  hpb : ∀ x ∈ xs, ∀ z ∈ (LP.hp x).map Prod.snd, base ≤ z
theorem PlayAt.below {w w' : World} {base top gC gl gL : Nat} {spare : List Value} {xs : List LP} {ls : List RL} (h : PlayAt w base top gC gl gL spare xs ls) (hb : Below w.heap.size w w') : PlayAt w' base top gC gl gL spare xs ls :=
  ⟨h.ch.below hb, h.len, h.xlen, h.lines.below hb h.lines.lt, h.eq, fun x hx => (h.at_ x hx).below hb (Nat.le_refl _), h.gms, h.sep, h.farh, h.fara, h.hpb⟩
theorem rl_flat_len {w : World} {ls : List RL} (h : ∀ x ∈ ls, x.At w) : (ls.flatMap RL.cells).length = ls.length * 36 := rflat_len (fun x hx => lineR_len (h x hx).ok.len)
/-- the i-th line's cells among all -/
theorem rl_split {w : World} {ls : List RL} (h : ∀ x ∈ ls, x.At w) (spare : List Value) (i : Nat) (hi : i < ls.length) : ls.flatMap RL.cells ++ spare = (ls.take i).flatMap RL.cells ++ (ls[i].cells ++ ((ls.drop (i + 1)).flatMap RL.cells ++ spare)) ∧ ((ls.take i).flatMap RL.cells).length = i * 36 := by
  refine ⟨?_, ?_⟩
  · have e : ls.flatMap RL.cells = (ls.take i).flatMap RL.cells ++ (ls[i].cells ++ (ls.drop (i + 1)).flatMap RL.cells) := by
      rw [← List.flatMap_cons, ← List.flatMap_append, ← List.drop_eq_getElem_cons hi, List.take_append_drop]
    rw [e]; simp
  · rw [rl_flat_len (fun x hx => h x (List.mem_of_mem_take hx)), List.length_take, Nat.min_eq_left (by omega)]
theorem rl_range {w : World} {ls : List RL} (h : ∀ x ∈ ls, x.At w) {spare : List Value} {gL : Nat} (hb : Blk w gL 56 (ls.flatMap RL.cells ++ spare)) (i : Nat) (hi : i < ls.length) : w.rangeAt gL (i * 36) ls[i].cells := by
  obtain ⟨h1, h2⟩ := rl_split h spare i hi
  have hl : ls[i].cells.length = 36 := lineR_len (h _ (List.getElem_mem hi)).ok.len
  have h3 := (hb.cast h1).range (i * 36) 36
  have e : (((ls.take i).flatMap RL.cells ++ (ls[i].cells ++ ((ls.drop (i + 1)).flatMap RL.cells ++ spare))).drop (i * 36)).take 36 = ls[i].cells := by
    rw [← h2, List.drop_left, List.take_append_of_le_length (by rw [hl]; exact Nat.le_refl _), List.take_of_length_le (by rw [hl]; exact Nat.le_refl _)]
  rwa [e] at h3
theorem RL.At.of {w w' : World} {x : RL} (h : x.At w) (hs : w.heap.size ≤ w'.heap.size) (hA : ∀ (b off : Nat), x.hA = some ⟨b, off, none⟩ → 0 < x.rs.length → w'.heap[b]? = w.heap[b]?) (aA : ∀ (b off : Nat), x.aA = some ⟨b, off, none⟩ → 0 < x.l.asked.length → w'.heap[b]? = w.heap[b]?)
    (hr : ∀ o ∈ x.rs, w'.heap[o.r]? = w.heap[o.r]?) : x.At w' := by
  refine ⟨h.ok, h.fst, fun hp => ?_, h.none_, fun o ho => (h.each o ho).of hs (hr o ho), fun hp => ?_⟩
  · have hp0 : 0 < x.rs.length := by rw [RO.flat_len h.each] at hp; omega
    obtain ⟨b, off, e, hbb, hc⟩ := h.rows hp
    exact ⟨b, off, e, Nat.lt_of_lt_of_le hbb hs, fun j u hu => by rw [← hc j u hu]; exact World.cell?_of_block (hA b off e hp0)⟩
  · obtain ⟨b, off, e, hbb, hc⟩ := h.asked hp
    exact ⟨b, off, e, Nat.lt_of_lt_of_le hbb hs, fun j u hu => by rw [← hc j u hu]; exact World.cell?_of_block (aA b off e hp)⟩
/-- a block is none of a line's -/
structure Free (b : Nat) (x : RL) : Prop where
  h : ∀ (b' off : Nat), x.hA = some ⟨b', off, none⟩ → 0 < x.rs.length → b' ≠ b
  a : ∀ (b' off : Nat), x.aA = some ⟨b', off, none⟩ → 0 < x.l.asked.length → b' ≠ b
  r : ∀ o ∈ x.rs, RO.r o ≠ b
theorem RL.At.hlt {w : World} {x : RL} (h : x.At w) (b off : Nat) (e : x.hA = some ⟨b, off, none⟩) (hp : 0 < x.rs.length) : b < w.heap.size ∧ ∃ o v, w.cell? ⟨b, o, none⟩ = some (.int .i64 v) := by
  obtain ⟨b', off', e', hb, hc⟩ := h.rows (by rw [RO.flat_len h.each]; omega)
  rw [e] at e'; injection e' with e'; injection e' with e1 e2 _
  subst e1
  refine ⟨hb, off' + 0, ?_⟩
  cases hx : x.rs with
  | nil => rw [hx] at hp; simp at hp
  | cons r rs =>
    refine ⟨r.o.no, hc 0 _ ?_⟩
    rw [hx]; rfl
theorem RL.At.alt {w : World} {x : RL} (h : x.At w) (b off : Nat) (e : x.aA = some ⟨b, off, none⟩) (hp : 0 < x.l.asked.length) : b < w.heap.size ∧ ∃ o v, w.cell? ⟨b, o, none⟩ = some (.int .i64 v) := by
  obtain ⟨b', off', e', hb, hc⟩ := h.asked hp
  rw [e] at e'; injection e' with e'; injection e' with e1 e2 _
  subst e1
  refine ⟨hb, off' + 0, x.l.asked[0], hc 0 _ ?_⟩
  exact List.getElem?_eq_getElem hp
theorem RL.At.free {w w' : World} {x : RL} {b : Nat} (h : x.At w) (hg : w.grownBy w' (some b)) (hf : Free b x) : x.At w' :=
  h.of hg.size (fun b' off e hp => hg.block _ (h.hlt b' off e hp).1 (fun e2 => by injection e2 with e2; exact hf.h b' off e hp e2)) (fun b' off e hp => hg.block _ (h.alt b' off e hp).1 (fun e2 => by injection e2 with e2; exact hf.a b' off e hp e2))
    (fun o ho => hg.block _ (h.each o ho).lt (fun e2 => by injection e2 with e2; exact hf.r o ho e2))
theorem Free.of_new {w : World} {x : RL} (h : x.At w) {b : Nat} (hb : w.heap.size ≤ b) : Free b x :=
  ⟨fun b' off e hp e2 => by have := (h.hlt b' off e hp).1; omega, fun b' off e hp e2 => by have := (h.alt b' off e hp).1; omega, fun o ho e2 => by have := (h.each o ho).lt; omega⟩
theorem Free.of_u8 {w : World} {x : RL} (h : x.At w) {b : Nat} {cs : List (BitVec 8)} (hA : Arr b8 w b 5 cs) (hr : ∀ o ∈ x.rs, RO.r o ≠ b) : Free b x := by
  have key : ∀ (o : Nat) (v : Int), w.cell? ⟨b, o, none⟩ = some (.int .i64 v) → False := fun o v hc => by
    have hh : w.heap[b]? = some (.cells (cs.map b8).toArray 5 (0, 0)) := hA
    rcases Nat.lt_or_ge o cs.length with h1 | h1
    · rw [hA.at_ (List.getElem?_eq_getElem h1)] at hc
      injection hc with hc; injection hc with hc _; cases hc
    · simp [World.cell?, hh, h1] at hc
  exact ⟨fun b' off e hp e2 => by obtain ⟨-, o, v, hc⟩ := h.hlt b' off e hp; rw [e2] at hc; exact key o v hc, fun b' off e hp e2 => by obtain ⟨-, o, v, hc⟩ := h.alt b' off e hp; rw [e2] at hc; exact key o v hc, hr⟩
theorem Free.of_map {w : World} {x : RL} (h : x.At w) {b : Nat} {es : Array MapEntry} {ck : Nat} (hm : w.heap[b]? = some (.map es ck)) : Free b x := by
  have key : ∀ (o : Nat) (v : Int), w.cell? ⟨b, o, none⟩ = some (.int .i64 v) → False := fun o v hc => by simp [World.cell?, hm] at hc
  refine ⟨fun b' off e hp e2 => by obtain ⟨-, o, v, hc⟩ := h.hlt b' off e hp; rw [e2] at hc; exact key o v hc, fun b' off e hp e2 => by obtain ⟨-, o, v, hc⟩ := h.alt b' off e hp; rw [e2] at hc; exact key o v hc, fun o ho e2 => ?_⟩
  obtain ⟨cs, hc⟩ := (h.each o ho).ty
  rw [e2, hm] at hc; cases hc
theorem Free.of_blk {w : World} {x : RL} (h : x.At w) {b top : Nat} {cs : Array Value} {T : TypeId} (hb : w.heap[b]? = some (.cells cs T (0, 0))) (hT : T ≠ 5) (f1 : ∀ (b' off : Nat), x.hA = some ⟨b', off, none⟩ → top ≤ b') (f2 : ∀ (b' off : Nat), x.aA = some ⟨b', off, none⟩ → top ≤ b') (ht : b < top) : Free b x :=
  ⟨fun b' off e _ e2 => by have := f1 b' off e; omega, fun b' off e _ e2 => by have := f2 b' off e; omega, fun o ho e2 => by
    obtain ⟨c2, h2⟩ := (h.each o ho).ty
    rw [e2, hb] at h2
    injection h2 with h2
    injection h2 with _ h3
    exact hT h3⟩
def startRL (link : List (BitVec 8)) : RL := ⟨startL link, [], none, 0, none, 0⟩
theorem startRL_at (w : World) (link : List (BitVec 8)) (h : link.length = 32) : (startRL link).At w :=
  ⟨startL_ok link h, rfl, Rd.nil_ _ _ _ _, fun _ => ⟨rfl, rfl⟩, (fun o ho => by cases ho), Rd.nil_ _ _ _ _⟩
theorem built_startRL (link : List (BitVec 8)) (h : link.length = 32) : Tryd.prog.built 56 [(0, .agg (link.map b8).toArray)] = some (startRL link).cells.toArray := by
  obtain ⟨x0, x1, x2, x3, x4, x5, x6, x7, x8, x9, x10, x11, x12, x13, x14, x15, x16, x17, x18, x19, x20, x21, x22, x23, x24, x25, x26, x27, x28, x29, x30, x31, rfl⟩ := list_of32 h
  kernel_rfl
/-- how many lines there are -/
def linesN (a : Int) : Nat := if soundB a then a.toNat else 0
theorem sound_two {a : Int} (h : soundB a = true) : ∃ k, k ≤ 5 ∧ a = ((2 ^ k : Nat) : Int) := by
  unfold soundB at h
  simp only [Bool.or_eq_true, beq_iff_eq] at h
  rcases h with ((((h | h) | h) | h) | h) | h
  · exact ⟨0, by decide, h⟩
  · exact ⟨1, by decide, h⟩
  · exact ⟨2, by decide, h⟩
  · exact ⟨3, by decide, h⟩
  · exact ⟨4, by decide, h⟩
  · exact ⟨5, by decide, h⟩
theorem new_all (w : World) (hT : Tab w) (s : List (BitVec 8)) (hs : s.length = 32) (a : Int) (a0 : -9223372036854775808 ≤ a) (a1 : a < 9223372036854775808) :
    Calls Tryd.prog 9 #[arrV b8 s, .int .i64 a] w fun e w' => ∃ gC gl xs, e = .returned (.pointer (some ⟨gC, 0, none⟩)) ∧ ChX w' gC gl xs ∧ xs.length = linesN a ∧ (∀ (i : Nat) (h : i < xs.length), xs[i].l = startL (leafS (linesN a) i s)) ∧ (∀ x ∈ xs, LP.hp x = []) ∧
      (∀ x ∈ xs, w.heap.size ≤ LP.gm x) ∧ w.heap.size ≤ gC ∧ gC < w'.heap.size ∧ w.heap.size ≤ gl ∧ gl < w'.heap.size ∧ linesN a ≤ 32 ∧ Below w.heap.size w w' := by
  cases hsd : soundB a with
  | true =>
    obtain ⟨k, hk, rfl⟩ := sound_two hsd
    have hN : linesN ((2 ^ k : Nat) : Int) = 2 ^ k := by unfold linesN; rw [if_pos hsd, Int.toNat_natCast]
    refine (newc_any w hT s hs k hk).mono ?_
    rintro e w' ⟨gC, gl, gms, rfl, hg, hc, h1, h2, h3, hb⟩
    have hl : (mkL (secs k s) gms).length = 2 ^ k := by rw [mkL_len _ _ (by rw [secs_len, hg]), secs_len]
    rw [hN]
    refine ⟨gC, gl, mkL (secs k s) gms, rfl, .inr hc, hl, fun i h => mkL_get k i hk (by rw [hl] at h; exact h) s gms hg h, fun x hx => ?_, fun x hx => ?_, h1, hc.top.lt, h2, hc.lines.lt, Nat.pow_le_pow_right (n := 2) (by decide) hk, hb⟩
    · obtain ⟨s', _, g, _, rfl⟩ := mkL_mem _ _ x hx; rfl
    · obtain ⟨s', _, g, hg', rfl⟩ := mkL_mem _ _ x hx; exact h3 g hg'
  | false =>
    have hN : linesN a = 0 := by unfold linesN; rw [hsd]; rfl
    rw [hN]
    refine (newbad_any w s a a0 a1 hsd).mono ?_
    rintro e w' ⟨rfl, hc, hb⟩
    have hlt := hc.lt
    exact ⟨w.heap.size + 1, w.heap.size + 1, [], rfl, .inl ⟨rfl, hc⟩, rfl, (fun i h => by simp at h), (fun x hx => by cases hx), (fun x hx => by cases hx), by omega, hlt, by omega, hlt, by omega, hb⟩
/-- rows of another type have grown -/
theorem chX_grew {w w' : World} {gC gl : Nat} {xs : List LP} {v v' : Value} {B K n : Nat} {us : List Value} (h : ChX w gC gl xs) (hg : Grew w w' v v') (ho : w.ownsRow B 56 K v n us) : ChX w' gC gl xs := by
  rcases hg with ⟨rfl, rfl⟩ | ⟨g, m, m', c, rfl, rfl, hg⟩ | ⟨-, hg⟩
  · exact h
  · rcases ho.2 with ⟨e, -⟩ | ⟨g', cap, cur, e, -, hg', -⟩
    · cases e
    · injection e with e1 e2 e3
      injection e1 with e1
      injection e1 with e1
      subst e1
      rcases h with ⟨h1, h2⟩ | h
      · refine .inl ⟨h1, h2.kept hg (fun e => ?_)⟩
        injection e with e
        have h3 : w.heap[gC]? = some (.cells #[.slice none 0 0] 70 (0, 0)) := h2
        rw [e, hg'] at h3; injection h3 with h3; injection h3 with _ hT _; exact absurd hT (by decide)
      · refine .inr ⟨h.top.kept hg (fun e => ?_), h.lines.grown hg (fun e => ?_), h.ok, fun x hx => (h.held x hx).cells hg' (by decide) hg, h.gms, h.blks⟩
        · injection e with e
          have h3 : w.heap[gC]? = some (.cells #[.slice (some ⟨gl, 0, none⟩) xs.length xs.length] 70 (0, 0)) := h.top
          rw [e, hg'] at h3; injection h3 with h3; injection h3 with _ hT _; exact absurd hT (by decide)
        · injection e with e
          have h3 : w.heap[gl]? = some (.cells (xs.flatMap LP.cells).toArray 81 (0, 0)) := h.lines
          rw [e, hg'] at h3; injection h3 with h3; injection h3 with _ hT _; exact absurd hT (by decide)
  · exact h.below ⟨hg.os, hg.tape, hg.output, hg.size, fun k hk => hg.block k hk (by simp)⟩
/-- a row of structs as a block that is known whole -/
theorem row_blk {w : World} {B E K g n cap : Nat} {us : List Value} (h : w.ownsRow B E K (.slice (some ⟨g, 0, none⟩) n cap) n us) : ∃ spare, Blk w g E (us ++ spare) ∧ B ≤ g := by
  rcases h.2 with ⟨e, -⟩ | ⟨g', cap', cur, e, hbg, hg, hnc, hcm, hcs, ht⟩
  · cases e
  · injection e with e1 e2 e3
    injection e1 with e1
    injection e1 with e1
    subst e1
    refine ⟨cur.toList.drop (n * K), ?_, hbg⟩
    show w.heap[g]? = some (.cells (us ++ cur.toList.drop (n * K)).toArray E (0, 0))
    rw [hg, ← ht, List.take_append_drop]
theorem op_size : (Tryd.prog.info? 58).map (·.size) = some 3 := by kernel_rfl
def zeroOp : List Value := [.int .i64 0, .int .i64 0, .int .i64 0]
/-- what stands behind an op of the script: the chains zs, the line's reference z, two alike keys, an error -/
structure CutP (wx w : World) (base top gC gl g : Nat) (spare : List Value) (ls : List RL) (N i J gO g19 g20 g23 : Nat) (opc : List Value) (zs : List LP) (z : RL) (m : Int) (key ns : List (BitVec 8)) (q c1 c2 : Nat) (A1 A2 : Option Addr) (row : Option Nat) : Prop where
  ch : ChAt wx gC gl zs
  zlen : zs.length = N
  eqz : ∀ (h : i < zs.length), zs[i].l = z.l
  eqo : ∀ (k : Nat) (h : k < zs.length) (h2 : k < ls.length), k ≠ i → ls[k].l = zs[k].l
  zat : z.At wx
  at_ : ∀ x ∈ ls, x.At wx
  lines : Blk wx g 56 (ls.flatMap RL.cells ++ spare)
  gms : ∀ x ∈ zs, base ≤ LP.gm x
  hpb : ∀ x ∈ zs, ∀ z ∈ (LP.hp x).map Prod.snd, base ≤ z
  sep : ∀ x ∈ ls, ∀ o ∈ x.rs, ∀ y ∈ zs, o.r ∉ (LP.hp y).map Prod.snd
  sepz : ∀ o ∈ z.rs, ∀ y ∈ zs, o.r ∉ (LP.hp y).map Prod.snd
  zfh : ∀ (b off : Nat), z.hA = some ⟨b, off, none⟩ → top ≤ b
  zfa : ∀ (b off : Nat), z.aA = some ⟨b, off, none⟩ → top ≤ b
  zask : z.l.asked.length ≤ J
  bO : Blk wx gO 58 opc
  b19 : Blk wx g19 32 (onceC m key (.slice A1 q c1))
  b20 : Blk wx g20 38 (onceC m key (.slice A2 q c2))
  b23 : Blk wx g23 56 z.cells
  klen : key.length = 32
  nlen : ns.length = q
  r1 : Rd b8 wx wx.heap.size A1 ns
  r2 : Rd b8 wx wx.heap.size A2 ns
  t1 : ∀ (b off : Nat), A1 = some ⟨b, off, none⟩ → ∃ cs, wx.heap[b]? = some (.cells cs 5 (0, 0))
  t2 : ∀ (b off : Nat), A2 = some ⟨b, off, none⟩ → ∃ cs, wx.heap[b]? = some (.cells cs 5 (0, 0))
  below : Below w.heap.size w wx
  over : ∀ W : World, (∀ b, row = some b → W.heap[b]? = wx.heap[b]?) → wx.heap.size ≤ W.heap.size → Calls Tryd.prog 26 #[.slice A1 q c1] W fun e w' => e = .returned (.tuple #[]) ∧ W.grownBy w' row
  free : ∀ b, row = some b → w.heap.size ≤ b ∧ b < wx.heap.size ∧ (∃ cs, wx.heap[b]? = some (.cells cs 5 (0, 0))) ∧ (∀ y ∈ zs, b ∉ (LP.hp y).map Prod.snd) ∧ (∀ x ∈ ls, Free b x) ∧ Free b z
/-- a block of bytes that is none of the chains' has turned -/
theorem ChAt.over {w w' : World} {gC gl b : Nat} {xs : List LP} {cs : Array Value} (c : ChAt w gC gl xs) (hb : w.heap[b]? = some (.cells cs 5 (0, 0))) (hn : ∀ y ∈ xs, b ∉ (LP.hp y).map Prod.snd) (hg : w.grownBy w' (some b)) : ChAt w' gC gl xs :=
  ⟨c.top.kept hg (fun e => by
    injection e with e
    have h3 : w.heap[gC]? = some (.cells #[.slice (some ⟨gl, 0, none⟩) xs.length xs.length] 70 (0, 0)) := c.top
    rw [e, hb] at h3; injection h3 with h3; injection h3 with _ hT _; exact absurd hT (by decide)),
   c.lines.grown hg (fun e => by
    injection e with e
    have h3 : w.heap[gl]? = some (.cells (xs.flatMap LP.cells).toArray 81 (0, 0)) := c.lines
    rw [e, hb] at h3; injection h3 with h3; injection h3 with _ hT _; exact absurd hT (by decide)),
   c.ok, fun x hx => ⟨(c.held x hx).map.kept hg (fun e => by
    injection e with e
    exact (c.held x hx).map.not_cells hb e), fun p hp => ((c.held x hx).mem p hp).grown hg (fun e => by
    injection e with e
    exact hn x hx (by rw [← e]; exact List.mem_map.2 ⟨p, hp, rfl⟩))⟩, c.gms, c.blks⟩
theorem PlayAt.after {w w' : World} {base top gC gl gL : Nat} {spare : List Value} {zs : List LP} {ms : List RL} {row : Option Nat} (h : PlayAt w base top gC gl gL spare zs ms) (hg : w.grownBy w' row)
    (hf : ∀ b, row = some b → (∃ cs, w.heap[b]? = some (.cells cs 5 (0, 0))) ∧ (∀ y ∈ zs, b ∉ (LP.hp y).map Prod.snd) ∧ (∀ x ∈ ms, Free b x)) (hpos : 0 < zs.length) : PlayAt w' base top gC gl gL spare zs ms := by
  cases row with
  | none => exact h.below ⟨hg.os, hg.tape, hg.output, hg.size, fun k hk => hg.block k hk (by simp)⟩
  | some b =>
    obtain ⟨⟨cs, hb⟩, h2, h3⟩ := hf b rfl
    refine ⟨.inr ((h.ch.at_ hpos).over hb h2 hg), h.len, h.xlen, h.lines.grown hg (fun e => ?_), h.eq, fun x hx => (h.at_ x hx).free hg (h3 x hx), h.gms, h.sep, h.farh, h.fara, h.hpb⟩
    injection e with e
    have h4 : w.heap[gL]? = some (.cells _ 56 (0, 0)) := h.lines
    rw [e, hb] at h4; injection h4 with h4; injection h4 with _ hT _; exact absurd hT (by decide)
/-- a block of another type has turned -/
theorem ChAt.typed {w w' : World} {gC gl b : Nat} {xs : List LP} {cs : Array Value} {T : TypeId} (c : ChAt w gC gl xs) (hb : w.heap[b]? = some (.cells cs T (0, 0))) (h1 : T ≠ 70) (h2 : T ≠ 81) (h3 : T ≠ 5) (hg : w.grownBy w' (some b)) : ChAt w' gC gl xs :=
  ⟨c.top.kept hg (fun e => by
    injection e with e
    have h3 : w.heap[gC]? = some (.cells #[.slice (some ⟨gl, 0, none⟩) xs.length xs.length] 70 (0, 0)) := c.top
    rw [e, hb] at h3; injection h3 with h3; injection h3 with _ hT _; exact h1 hT),
   c.lines.grown hg (fun e => by
    injection e with e
    have h3 : w.heap[gl]? = some (.cells (xs.flatMap LP.cells).toArray 81 (0, 0)) := c.lines
    rw [e, hb] at h3; injection h3 with h3; injection h3 with _ hT _; exact h2 hT),
   c.ok, fun x hx => (c.held x hx).cells hb h3 hg, c.gms, c.blks⟩
theorem rd_typed {w w' : World} {B g : Nat} {A : Option Addr} {ns : List (BitVec 8)} {cs : Array Value} {T : TypeId} (h : Rd b8 w B A ns) (hB : B ≤ w.heap.size) (hb : w.heap[g]? = some (.cells cs T (0, 0))) (hT : T ≠ 5)
    (ht : ∀ (b off : Nat), A = some ⟨b, off, none⟩ → ∃ cs, w.heap[b]? = some (.cells cs 5 (0, 0))) (hg : w.grownBy w' (some g)) : Rd b8 w' B A ns := fun hn => by
  obtain ⟨b, off, e, hlt, hc⟩ := h hn
  obtain ⟨c2, h2⟩ := ht b off e
  have hne : some b ≠ some g := fun e2 => by
    injection e2 with e2
    rw [e2, hb] at h2
    injection h2 with h2
    injection h2 with _ h3
    exact hT h3
  exact ⟨b, off, e, hlt, fun j u hu => by rw [← hc j u hu]; exact World.cell?_of_block (hg.block b (by omega) hne)⟩
/-- what the round leaves, from what stands behind the op -/
theorem CutP.next {wx w wA wB wD : World} {top gC gl g : Nat} {spare : List Value} {ls : List RL} {N i J gO g19 g20 g23 : Nat} {opc : List Value} {zs : List LP} {z : RL} {m : Int} {key ns : List (BitVec 8)} {q c1 c2 : Nat} {A1 A2 : Option Addr} {row : Option Nat}
    (h : CutP wx w w.heap.size top gC gl g spare ls N i J gO g19 g20 g23 opc zs z m key ns q c1 c2 A1 A2 row) (hlen : ls.length = zs.length) (hil : i < ls.length) (hz32 : zs.length ≤ 32) (hgt : g < top) (hwg : w.heap.size ≤ g)
    (fh : ∀ x ∈ ls, ∀ (b off : Nat), x.hA = some ⟨b, off, none⟩ → top ≤ b) (fa : ∀ x ∈ ls, ∀ (b off : Nat), x.aA = some ⟨b, off, none⟩ → top ≤ b)
    (hxA : Blk wA g 56 ((ls.take i).flatMap RL.cells ++ (z.cells ++ ((ls.drop (i + 1)).flatMap RL.cells ++ spare)))) (hgA : wx.grownBy wA (some g)) (hB : Below wA.heap.size wA wB) (hD : wB.grownBy wD row) :
    PlayAt wD w.heap.size top gC gl g spare zs (ls.set i z) ∧ Below w.heap.size w wD := by
  have hiz : i < zs.length := by omega
  have hzA : wx.heap.size ≤ wA.heap.size := hgA.size
  have hzB := hB.size
  have hLx : wx.heap[g]? = some (.cells (ls.flatMap RL.cells ++ spare).toArray 56 (0, 0)) := h.lines
  have hcA : ChAt wA gC gl zs := h.ch.typed hLx (by decide) (by decide) (by decide) hgA
  have hatA : ∀ x ∈ ls, x.At wA := fun x hx => (h.at_ x hx).free hgA (Free.of_blk (h.at_ x hx) hLx (by decide) (fh x hx) (fa x hx) hgt)
  have hzAt : z.At wA := h.zat.free hgA (Free.of_blk h.zat hLx (by decide) h.zfh h.zfa hgt)
  have es : ls.set i z = ls.take i ++ z :: ls.drop (i + 1) := List.set_eq_take_append_cons_drop .. |>.trans (if_pos hil)
  have hpA : PlayAt wA w.heap.size top gC gl g spare zs (ls.set i z) := by
    refine ⟨.inr hcA, by rw [List.length_set]; exact hlen, hz32, hxA.cast (by rw [es]; simp), fun k h1 h2 => ?_, fun x hx => ?_, h.gms, fun x hx => ?_, fun x hx => ?_, fun x hx => ?_, h.hpb⟩
    · by_cases hk : k = i
      · subst hk; rw [List.getElem_set_self]; exact (h.eqz h1).symm
      · rw [List.getElem_set_ne (fun e => hk e.symm)]
        exact h.eqo k h1 (by rw [List.length_set] at h2; exact h2) hk
    · rcases List.mem_or_eq_of_mem_set hx with h1 | rfl
      · exact hatA x h1
      · exact hzAt
    · rcases List.mem_or_eq_of_mem_set hx with h1 | rfl
      · exact h.sep x h1
      · exact h.sepz
    · rcases List.mem_or_eq_of_mem_set hx with h1 | rfl
      · exact fh x h1
      · exact h.zfh
    · rcases List.mem_or_eq_of_mem_set hx with h1 | rfl
      · exact fa x h1
      · exact h.zfa
  have hpB := hpA.below hB
  refine ⟨hpB.after hD (fun b e => ?_) (by omega), ?_⟩
  · obtain ⟨f1, f2, ⟨cs, f3⟩, f4, f5, f6⟩ := h.free b e
    have hbg : b ≠ g := fun e2 => by
      rw [e2, hLx] at f3; injection f3 with f3; injection f3 with _ hT _; exact absurd hT (by decide)
    refine ⟨⟨cs, ?_⟩, f4, fun x hx => ?_⟩
    · rw [hB.block b (by omega), hgA.block b f2 (fun e2 => by injection e2 with e2; exact hbg e2)]; exact f3
    · rcases List.mem_or_eq_of_mem_set hx with h1 | rfl
      · exact f5 x h1
      · exact f6
  · have h1 : Below w.heap.size w wB := (h.below.grown hgA h.below.size (fun k e => by cases e; exact hwg)).trans (hB.mono (by have := h.below.size; omega))
    exact h1.grown hD h1.size (fun k e => (h.free k e).1)
end Go.Proofs.YtmncihhofppkdaaDoor

/- What the ops of a script leave: frames of some blocks; the parts of CutP. -/
namespace Go.Proofs.YtmncihhofppkdaaDoor
open Go.RowKit
set_option linter.unusedVariables false
set_option linter.unusedSimpArgs false
/-- nothing but some blocks has turned -/
structure Frm (w w' : World) (S : List Nat) : Prop where
  os : w'.os = w.os
  tape : w'.tape = w.tape
  output : w'.output = w.output
  size : w.heap.size ≤ w'.heap.size
  block : ∀ k, k < w.heap.size → k ∉ S → w'.heap[k]? = w.heap[k]?
theorem Frm.refl (w : World) (S : List Nat) : Frm w w S := ⟨rfl, rfl, rfl, Nat.le_refl _, fun _ _ _ => rfl⟩
theorem Frm.below {w w' w'' : World} {S : List Nat} {B : Nat} (h : Frm w w' S) (hb : Below B w' w'') (hB : w'.heap.size ≤ B) : Frm w w'' S :=
  ⟨hb.os.trans h.os, hb.tape.trans h.tape, hb.output.trans h.output, Nat.le_trans h.size hb.size, fun k hk hn => (hb.block k (by have := h.size; omega)).trans (h.block k hk hn)⟩
theorem Frm.grown {w w' w'' : World} {S : List Nat} {g : Nat} (h : Frm w w' S) (hg : w'.grownBy w'' (some g)) (hm : g ∈ S) : Frm w w'' S :=
  ⟨hg.os.trans h.os, hg.tape.trans h.tape, hg.output.trans h.output, Nat.le_trans h.size hg.size, fun k hk hn => (hg.block k (by have := h.size; omega) (fun e => by injection e with e; subst e; exact hn hm)).trans (h.block k hk hn)⟩
theorem Frm.two {w w' w'' : World} {S : List Nat} {a b : Nat} (h : Frm w w' S) (hg : Two w' w'' a b) (ha : a ∈ S) (hb : b ∈ S) : Frm w w'' S :=
  ⟨hg.os.trans h.os, hg.tape.trans h.tape, hg.output.trans h.output, Nat.le_trans h.size hg.size, fun k hk hn => (hg.block k (by have := h.size; omega) (fun e => by subst e; exact hn ha) (fun e => by subst e; exact hn hb)).trans (h.block k hk hn)⟩
theorem Frm.toBelow {w0 w w' : World} {S : List Nat} {B : Nat} (hb : Below B w0 w) (h : Frm w w' S) (hB : B ≤ w.heap.size) (hS : ∀ q ∈ S, B ≤ q) : Below B w0 w' :=
  ⟨h.os.trans hb.os, h.tape.trans hb.tape, h.output.trans hb.output, Nat.le_trans hb.size h.size, fun k hk => (h.block k (by omega) (fun hm => by have := hS k hm; omega)).trans (hb.block k hk)⟩
theorem Blk.frm {w w' : World} {S : List Nat} {g : Nat} {T : TypeId} {cs : List Value} (h : Blk w g T cs) (f : Frm w w' S) (hn : g ∉ S) : Blk w' g T cs := (f.block g h.lt hn).trans h
theorem RL.At.frm {w w' : World} {S : List Nat} {x : RL} (h : x.At w) (f : Frm w w' S) (hf : ∀ q ∈ S, Free q x) : x.At w' :=
  h.of f.size (fun b off e hp => f.block b (h.hlt b off e hp).1 (fun hm => (hf b hm).h b off e hp rfl)) (fun b off e hp => f.block b (h.alt b off e hp).1 (fun hm => (hf b hm).a b off e hp rfl)) (fun o ho => f.block _ (h.each o ho).lt (fun hm => (hf _ hm).r o ho rfl))
/-- a block of cells that is none of the chains' kinds -/
def Typed (w : World) (q : Nat) : Prop := ∃ cs T, w.heap[q]? = some (.cells cs T (0, 0)) ∧ T ≠ 70 ∧ T ≠ 81 ∧ T ≠ 5
theorem ChAt.frm {w w' : World} {S : List Nat} {gC gl : Nat} {xs : List LP} (c : ChAt w gC gl xs) (f : Frm w w' S) (hS : ∀ q ∈ S, Typed w q) : ChAt w' gC gl xs := by
  have hu : ∀ (q : Nat) (cs : Array Value), w.heap[q]? = some (.cells cs 5 (0, 0)) → q ∉ S := fun q cs hq hm => by
    obtain ⟨c2, T, h2, -, -, h3⟩ := hS q hm
    rw [hq] at h2; injection h2 with h2; injection h2 with _ hT _; exact h3 hT.symm
  refine ⟨(f.block gC c.top.lt (fun hm => ?_)).trans c.top, c.lines.frm f (fun hm => ?_), c.ok, fun x hx => ⟨(c.held x hx).map.at_ (f.block _ (c.held x hx).map.lt (fun hm => ?_)), fun p hp => ?_⟩, c.gms, c.blks⟩
  · obtain ⟨c2, T, h2, h3, -, -⟩ := hS gC hm
    have h4 : w.heap[gC]? = some (.cells #[.slice (some ⟨gl, 0, none⟩) xs.length xs.length] 70 (0, 0)) := c.top
    rw [h4] at h2; injection h2 with h2; injection h2 with _ hT _; exact h3 hT.symm
  · obtain ⟨c2, T, h2, -, h3, -⟩ := hS gl hm
    have h4 : w.heap[gl]? = some (.cells (xs.flatMap LP.cells).toArray 81 (0, 0)) := c.lines
    rw [h4] at h2; injection h2 with h2; injection h2 with _ hT _; exact h3 hT.symm
  · obtain ⟨c2, T, h2, -⟩ := hS _ hm
    exact (c.held x hx).map.not_cells h2 rfl
  · have h1 := (c.held x hx).mem p hp
    have h2 : w.heap[p.2]? = some (.cells ((p.1.key ++ p.1.nonce).map b8).toArray 5 (0, 0)) := h1
    exact (f.block p.2 h1.lt (hu _ _ h2)).trans h1
theorem RO.At.frm {w w' : World} {S : List Nat} {o : RO} (h : o.At w) (f : Frm w w' S) (hS : ∀ q ∈ S, Typed w q) : o.At w' :=
  h.of f.size (f.block _ h.lt (fun hm => by
    obtain ⟨c1, h1⟩ := h.ty
    obtain ⟨c2, T, h2, -, -, h3⟩ := hS _ hm
    rw [h1] at h2; injection h2 with h2; injection h2 with _ hT _; exact h3 hT.symm))
theorem Arr.frm {w w' : World} {S : List Nat} {b : Nat} {xs : List (BitVec 8)} (h : Arr b8 w b 5 xs) (f : Frm w w' S) (hS : ∀ q ∈ S, Typed w q) : Arr b8 w' b 5 xs :=
  (f.block b h.lt (fun hm => by
    have h1 : w.heap[b]? = some (.cells (xs.map b8).toArray 5 (0, 0)) := h
    obtain ⟨c2, T, h2, -, -, h3⟩ := hS _ hm
    rw [h1] at h2; injection h2 with h2; injection h2 with _ hT _; exact h3 hT.symm)).trans h
/-- the parts that all ops share -/
theorem cutP_mk {w w8 w9 w13 : World} {top gC gl g : Nat} {spare : List Value} {ys zs : List LP} {ls : List RL} {N i J gO g19 g20 g23 : Nat} {opc : List Value} {z : RL} {m : Int} {key ns : List (BitVec 8)} {q c1 c2 : Nat} {A1 A2 : Option Addr} {row : Option Nat} {S : List Nat}
    (HP : PlayAt w8 w.heap.size top gC gl g spare ys ls) (hB8 : Below w.heap.size w w8) (bO : Blk w8 gO 58 opc) (b19 : Typed w9 g19) (b20 : Typed w9 g20) (b23 : Typed w9 g23)
    (hC : ChAt w9 gC gl zs) (hlen : zs.length = N) (heqz : ∀ (h : i < zs.length), zs[i].l = z.l) (heqo : ∀ (k : Nat) (h : k < zs.length) (h2 : k < ls.length), k ≠ i → ls[k].l = zs[k].l)
    (hgms : ∀ x ∈ zs, w.heap.size ≤ LP.gm x) (hhpb : ∀ x ∈ zs, ∀ z ∈ (LP.hp x).map Prod.snd, w.heap.size ≤ z) (hsep : ∀ x ∈ ls, ∀ o ∈ x.rs, ∀ y ∈ zs, o.r ∉ (LP.hp y).map Prod.snd)
    (F8 : Frm w8 w9 S) (hS : ∀ q ∈ S, w.heap.size ≤ q ∧ q ≠ gO ∧ q ≠ g ∧ ∀ x ∈ ls, Free q x) (F9 : Frm w9 w13 [g19, g20, g23]) (hw : w.heap.size ≤ g19 ∧ w.heap.size ≤ g20 ∧ w.heap.size ≤ g23) (ho : gO ≠ g19 ∧ gO ≠ g20 ∧ gO ≠ g23) (hg : g ≠ g19 ∧ g ≠ g20 ∧ g ≠ g23)
    (hfree : ∀ x ∈ ls, Free g19 x ∧ Free g20 x ∧ Free g23 x)
    (k19 : Blk w13 g19 32 (onceC m key (.slice A1 q c1))) (k20 : Blk w13 g20 38 (onceC m key (.slice A2 q c2))) (k23 : Blk w13 g23 56 z.cells)
    (hz : z.At w13) (hsepz : ∀ o ∈ z.rs, ∀ y ∈ zs, o.r ∉ (LP.hp y).map Prod.snd) (zfh : ∀ (b off : Nat), z.hA = some ⟨b, off, none⟩ → top ≤ b) (zfa : ∀ (b off : Nat), z.aA = some ⟨b, off, none⟩ → top ≤ b) (zask : z.l.asked.length ≤ J)
    (klen : key.length = 32) (nlen : ns.length = q) (r1 : Rd b8 w13 w13.heap.size A1 ns) (r2 : Rd b8 w13 w13.heap.size A2 ns)
    (t1 : ∀ (b off : Nat), A1 = some ⟨b, off, none⟩ → ∃ cs, w13.heap[b]? = some (.cells cs 5 (0, 0))) (t2 : ∀ (b off : Nat), A2 = some ⟨b, off, none⟩ → ∃ cs, w13.heap[b]? = some (.cells cs 5 (0, 0)))
    (over : ∀ W : World, (∀ b, row = some b → W.heap[b]? = w13.heap[b]?) → w13.heap.size ≤ W.heap.size → Calls Tryd.prog 26 #[.slice A1 q c1] W fun e w' => e = .returned (.tuple #[]) ∧ W.grownBy w' row)
    (free : ∀ b, row = some b → w.heap.size ≤ b ∧ b < w13.heap.size ∧ (∃ cs, w13.heap[b]? = some (.cells cs 5 (0, 0))) ∧ (∀ y ∈ zs, b ∉ (LP.hp y).map Prod.snd) ∧ (∀ x ∈ ls, Free b x) ∧ Free b z) :
    CutP w13 w w.heap.size top gC gl g spare ls N i J gO g19 g20 g23 opc zs z m key ns q c1 c2 A1 A2 row := by
  have hT : ∀ q ∈ [g19, g20, g23], Typed w9 q := fun q hq => by
    simp only [List.mem_cons, List.not_mem_nil, or_false] at hq
    rcases hq with rfl | rfl | rfl <;> assumption
  refine ⟨hC.frm F9 hT, hlen, heqz, heqo, hz, fun x hx => ((HP.at_ x hx).frm F8 (fun q hq => (hS q hq).2.2.2 x hx)).frm F9 (fun q hq => ?_), (HP.lines.frm F8 (fun hm => (hS g hm).2.2.1 rfl)).frm F9 (fun hm => ?_), hgms, hhpb, hsep, hsepz, zfh, zfa, zask, (bO.frm F8 (fun hm => (hS gO hm).2.1 rfl)).frm F9 (fun hm => ?_), k19, k20, k23, klen, nlen, r1, r2, t1, t2, ?_, over, free⟩
  · obtain ⟨h1, h2, h3⟩ := hfree x hx
    simp only [List.mem_cons, List.not_mem_nil, or_false] at hq
    rcases hq with rfl | rfl | rfl <;> assumption
  · simp only [List.mem_cons, List.not_mem_nil, or_false] at hm
    rcases hm with e | e | e
    · exact hg.1 e
    · exact hg.2.1 e
    · exact hg.2.2 e
  · simp only [List.mem_cons, List.not_mem_nil, or_false] at hm
    rcases hm with e | e | e
    · exact ho.1 e
    · exact ho.2.1 e
    · exact ho.2.2 e
  · refine (F8.toBelow hB8 hB8.size (fun q hq => (hS q hq).1)) |> fun h => F9.toBelow h h.size (fun q hq => ?_)
    simp only [List.mem_cons, List.not_mem_nil, or_false] at hq
    rcases hq with rfl | rfl | rfl
    · exact hw.1
    · exact hw.2.1
    · exact hw.2.2
theorem Typed.of {w : World} {q : Nat} {T : TypeId} {cs : List Value} (h : Blk w q T cs) (h1 : T ≠ 70) (h2 : T ≠ 81) (h3 : T ≠ 5) : Typed w q := ⟨_, T, h, h1, h2, h3⟩
theorem cutP_take {w w8 w9 w10 w11 w12 w13 : World} {top gC gl g : Nat} {spare : List Value} {ys : List LP} {ls : List RL} {N i J gO g19 g20 g23 : Nat} {opc : List Value} {z : RL} {n : Int} {y : LP} {b gn off c : Nat} {XC : List Value}
    (HP : PlayAt w8 w.heap.size top gC gl g spare ys ls) (hB8 : Below w.heap.size w w8) (hiy : i < ys.length) (hil : i < ls.length) (hN : ys.length = N) (bO : Blk w8 gO 58 opc) (b19 : Blk w8 g19 32 zeroOnce) (b20 : Blk w8 g20 38 zeroOnce) (b23 : Blk w8 g23 56 XC)
    (htO : top ≤ gO) (h19 : gO < g19) (h20 : g19 < g20) (h23 : g20 < g23) (hgt : g < top) (hglt : gl < top) (hggl : gl ≠ g) (hwgl : w.heap.size ≤ gl) (hwO : w.heap.size ≤ gO) (hfree : ∀ x ∈ ls, Free g19 x ∧ Free g20 x ∧ Free g23 x) (hask : ∀ x ∈ ls, x.l.asked.length + 1 ≤ J)
    (hE : takeE ys[i].l n = 0) (hA9 : Arr b8 w9 b 5 ((takeO ys[i].l n).key ++ (takeO ys[i].l n).nonce)) (hyl : y.l = takeL ys[i].l n) (hC9 : ChAt w9 gC gl (ys.set i y)) (hnd : b ∉ (ys.set i y).flatMap (fun x => x.hp.map Prod.snd)) (hg9 : w8.grownBy w9 (some gl)) (hgm : w8.heap.size ≤ LP.gm y) (hzz : ∀ z ∈ b :: y.hp.map Prod.snd, z ∈ ys[i].hp.map Prod.snd ∨ w8.heap.size ≤ z)
    (h10 : Blk w10 g19 32 (onceC n (takeO ys[i].l n).key (nonceS b))) (hg10 : w9.grownBy w10 (some g19))
    (hzl : z.l = takeL ls[i].l n) (hz : z.At w11) (hro : RO.At w11 ⟨takeO ls[i].l n, gn, off, c⟩) (hzr : ∀ o ∈ z.rs, o.r ∈ ls[i].rs.map RO.r ∨ w10.heap.size ≤ o.r) (hzh : ∀ (b off : Nat), z.hA = some ⟨b, off, none⟩ → w10.heap.size ≤ b) (hza : ∀ (b off : Nat), z.aA = some ⟨b, off, none⟩ → w10.heap.size ≤ b) (hb11 : Below w10.heap.size w10 w11)
    (hg12 : w11.grownBy w12 (some g20)) (h12 : Blk w12 g20 38 (onceC n (takeO ls[i].l n).key (.slice (some ⟨gn, off, none⟩) 12 c))) (hg13 : w12.grownBy w13 (some g23)) (h13 : Blk w13 g23 56 z.cells) :
    CutP w13 w w.heap.size top gC gl g spare ls N i J gO g19 g20 g23 opc (ys.set i y) z n (takeO ys[i].l n).key (takeO ys[i].l n).nonce 12 12 c (some ⟨b, 32, none⟩) (some ⟨gn, off, none⟩) (some b) := by
  have hxl : ls[i].l = ys[i].l := HP.eq i hiy hil
  have hxm : ls[i] ∈ ls := List.getElem_mem hil
  have hym : ys[i] ∈ ys := List.getElem_mem hiy
  rw [hxl] at hzl hro h12
  obtain ⟨hkl, hnl⟩ := takeO_lens ((HP.ch.at_ hiy).ok _ hym).lok hE
  have s9 := hg9.size
  have s10 := hg10.size
  have s11 := hb11.size
  have s12 := hg12.size
  have s13 := hg13.size
  have l23 := b23.lt
  have b19' : Blk w9 g19 32 zeroOnce := b19.grown hg9 (fun e => by injection e with e; omega)
  have b20' : Blk w9 g20 38 zeroOnce := b20.grown hg9 (fun e => by injection e with e; omega)
  have b23' : Blk w9 g23 56 XC := b23.grown hg9 (fun e => by injection e with e; omega)
  have ty19 : Typed w9 g19 := Typed.of b19' (by decide) (by decide) (by decide)
  have ty20 : Typed w9 g20 := Typed.of b20' (by decide) (by decide) (by decide)
  have ty23 : Typed w9 g23 := Typed.of b23' (by decide) (by decide) (by decide)
  have hT : ∀ q ∈ [g19, g20, g23], Typed w9 q := fun q hq => by
    simp only [List.mem_cons, List.not_mem_nil, or_false] at hq
    rcases hq with rfl | rfl | rfl <;> assumption
  have F8 : Frm w8 w9 [gl] := (Frm.refl w8 [gl]).grown hg9 (by simp)
  have F9 : Frm w9 w13 [g19, g20, g23] := ((((Frm.refl w9 _).grown hg10 (by simp)).below hb11 (Nat.le_refl _)).grown hg12 (by simp)).grown hg13 (by simp)
  have F11 : Frm w11 w13 [g20, g23] := ((Frm.refl w11 _).grown hg12 (by simp)).grown hg13 (by simp)
  have c20 : Blk w11 g20 38 zeroOnce := (b20'.grown hg10 (fun e => by injection e with e; omega)).below hb11 (by omega)
  have c23 : Blk w11 g23 56 XC := (b23'.grown hg10 (fun e => by injection e with e; omega)).below hb11 (by omega)
  have hT11 : ∀ q ∈ [g20, g23], Typed w11 q := fun q hq => by
    simp only [List.mem_cons, List.not_mem_nil, or_false] at hq
    rcases hq with rfl | rfl
    · exact Typed.of c20 (by decide) (by decide) (by decide)
    · exact Typed.of c23 (by decide) (by decide) (by decide)
  have hz13 : z.At w13 := hz.frm F11 (fun q hq => by
    simp only [List.mem_cons, List.not_mem_nil, or_false] at hq
    rcases hq with rfl | rfl
    · exact Free.of_blk hz c20 (by decide) hzh hza (by omega)
    · exact Free.of_blk hz c23 (by decide) hzh hza (by omega))
  have hA13 := hA9.frm F9 hT
  have hro13 := hro.frm F11 hT11
  have hlt9 := hC9.blk_lt
  have hbl : b < w9.heap.size := hA9.lt
  -- old rows against the chains' blocks
  have old : ∀ x ∈ ls, ∀ o ∈ x.rs, ∀ yy ∈ ys.set i y, o.r ∉ (LP.hp yy).map Prod.snd := fun x hx o ho yy hyy hm => by
    have hlt := ((HP.at_ x hx).each o ho).lt
    rcases List.mem_or_eq_of_mem_set hyy with h1 | rfl
    · exact HP.sep x hx o ho yy h1 hm
    · rcases hzz o.r (List.mem_cons_of_mem _ hm) with h1 | h1
      · exact HP.sep x hx o ho _ hym h1
      · omega
  have oldb : ∀ x ∈ ls, ∀ o ∈ x.rs, o.r ≠ b := fun x hx o ho e => by
    have hlt := ((HP.at_ x hx).each o ho).lt
    rcases hzz b (by simp) with h1 | h1
    · exact HP.sep x hx o ho _ hym (by rw [e]; exact h1)
    · omega
  have hb0 : w.heap.size ≤ b := by
    rcases hzz b (by simp) with h1 | h1
    · exact HP.hpb _ hym b h1
    · have := hB8.size; omega
  have hmem9 : ∀ yy ∈ ys.set i y, ∀ q ∈ (LP.hp yy).map Prod.snd, q < w9.heap.size := fun yy hyy q hq => hlt9 q (List.mem_flatMap.2 ⟨yy, hyy, hq⟩)
  have CP := fun fr => cutP_mk (z := z) (m := n) (key := (takeO ys[i].l n).key) (ns := (takeO ys[i].l n).nonce) (q := 12) (c1 := 12) (c2 := c) (A1 := some ⟨b, 32, none⟩) (A2 := some ⟨gn, off, none⟩) (row := some b) (i := i) (J := J) (N := N) HP hB8 bO ty19 ty20 ty23 hC9 (by rw [List.length_set]; exact hN) (fun h => by rw [List.getElem_set_self, hyl, hzl]) (fun k h h2 hk => by
      rw [List.getElem_set_ne (fun e => hk e.symm)]
      exact (HP.eq k (by rw [List.length_set] at h; exact h) h2)) (fun x hx => by
      rcases List.mem_or_eq_of_mem_set hx with h1 | rfl
      · exact HP.gms x h1
      · have := hB8.size; omega) (fun x hx q hq => by
      rcases List.mem_or_eq_of_mem_set hx with h1 | rfl
      · exact HP.hpb x h1 q hq
      · rcases hzz q (List.mem_cons_of_mem _ hq) with h1 | h1
        · exact HP.hpb _ hym q h1
        · have := hB8.size; omega) old F8 (fun q hq => by
      simp only [List.mem_cons, List.not_mem_nil, or_false] at hq
      subst hq
      exact ⟨hwgl, by omega, hggl, fun x hx => Free.of_blk (HP.at_ x hx) ((HP.ch.at_ hiy).lines) (by decide) (HP.farh x hx) (HP.fara x hx) hglt⟩) F9 ⟨by omega, by omega, by omega⟩ ⟨by omega, by omega, by omega⟩ ⟨by omega, by omega, by omega⟩ hfree
    ((h10.below hb11 (by omega)).grown hg12 (fun e => by injection e with e; omega) |>.grown hg13 (fun e => by injection e with e; omega)) (h12.grown hg13 (fun e => by injection e with e; omega)) h13 hz13
    (fun o ho yy hyy hm => by
      rcases hzr o ho with h1 | h1
      · obtain ⟨o', ho', e⟩ := List.mem_map.1 h1
        exact old _ hxm o' ho' yy hyy (by rw [e]; exact hm)
      · have := hmem9 yy hyy o.r hm; omega) (fun b' off' e => by have := hzh b' off' e; omega) (fun b' off' e => by have := hza b' off' e; omega) (by
      rw [hzl]
      have h1 := hask _ hxm
      rw [hxl] at h1
      show (ys[i].l.asked ++ [n]).length ≤ J
      rw [List.length_append]; exact h1) hkl hnl (rd_wider (B := b + 1) (by
      have h := hA13.rd 32
      rwa [show ((takeO ys[i].l n).key ++ (takeO ys[i].l n).nonce).drop 32 = (takeO ys[i].l n).nonce by rw [← hkl, List.drop_left]] at h) (by have := F9.size; omega)) (rd_wider hro13.read (by have := hro13.lt; exact this))
    (fun b' off' e => by injection e with e; injection e with e _ _; subst e; exact ⟨_, hA13⟩) (fun b' off' e => by injection e with e; injection e with e _ _; subst e; exact hro13.ty)
    (fun W hW hs => over_mid W b _ _ hkl hnl ((hW b rfl).trans hA13)) fr
  refine CP (fun b' e => ?_)
  injection e with e
  subst e
  have hz13r : ∀ o ∈ z.rs, o.r ≠ b := fun o ho e => by
    rcases hzr o ho with h1 | h1
    · obtain ⟨o', ho', e'⟩ := List.mem_map.1 h1
      exact oldb _ hxm o' ho' (by rw [e']; exact e)
    · omega
  refine ⟨hb0, by have := F9.size; omega, ⟨_, hA13⟩, fun yy hyy hm => hnd (List.mem_flatMap.2 ⟨yy, hyy, hm⟩), fun x hx => ?_, Free.of_u8 hz13 hA13 hz13r⟩
  refine Free.of_u8 (w := w13) (((HP.at_ x hx).frm F8 (fun q hq => ?_)).frm F9 (fun q hq => ?_)) hA13 (oldb x hx)
  · simp only [List.mem_cons, List.not_mem_nil, or_false] at hq
    subst hq
    exact Free.of_blk (HP.at_ x hx) ((HP.ch.at_ hiy).lines) (by decide) (HP.farh x hx) (HP.fara x hx) hglt
  · obtain ⟨f1, f2, f3⟩ := hfree x hx
    simp only [List.mem_cons, List.not_mem_nil, or_false] at hq
    rcases hq with rfl | rfl | rfl <;> assumption
/-- no key was answered -/
theorem cutP_zero {w w8 w9 w13 : World} {top gC gl g : Nat} {spare : List Value} {ys zs : List LP} {ls : List RL} {N i J gO g19 g20 g23 : Nat} {opc : List Value} {z : RL} {S : List Nat}
    (HP : PlayAt w8 w.heap.size top gC gl g spare ys ls) (hB8 : Below w.heap.size w w8) (hil : i < ls.length) (bO : Blk w8 gO 58 opc) (b19 : Typed w9 g19) (b20 : Typed w9 g20) (b23 : Typed w9 g23)
    (hwO : w.heap.size ≤ gO) (htO : top ≤ gO) (h19 : gO < g19) (h20 : g19 < g20) (h23 : g20 < g23) (hgt : g < top) (hfree : ∀ x ∈ ls, Free g19 x ∧ Free g20 x ∧ Free g23 x)
    (hC : ChAt w9 gC gl zs) (hlen : zs.length = N) (heqz : ∀ (h : i < zs.length), zs[i].l = z.l) (heqo : ∀ (k : Nat) (h : k < zs.length) (h2 : k < ls.length), k ≠ i → ls[k].l = zs[k].l)
    (hgms : ∀ x ∈ zs, w.heap.size ≤ LP.gm x) (hhpb : ∀ x ∈ zs, ∀ z ∈ (LP.hp x).map Prod.snd, w.heap.size ≤ z) (hsep : ∀ x ∈ ls, ∀ o ∈ x.rs, ∀ y ∈ zs, o.r ∉ (LP.hp y).map Prod.snd)
    (F8 : Frm w8 w9 S) (hS : ∀ q ∈ S, w.heap.size ≤ q ∧ q ≠ gO ∧ q ≠ g ∧ ∀ x ∈ ls, Free q x) (F9 : Frm w9 w13 [g19, g20, g23])
    (k19 : Blk w13 g19 32 zeroOnce) (k20 : Blk w13 g20 38 zeroOnce) (k23 : Blk w13 g23 56 z.cells)
    (hz : z.At w13) (hsub : ∀ o ∈ z.rs, o ∈ ls[i].rs) (hA : z.hA = ls[i].hA ∨ z.hA = none) (aA : z.aA = ls[i].aA) (zask : z.l.asked.length ≤ J) :
    CutP w13 w w.heap.size top gC gl g spare ls N i J gO g19 g20 g23 opc zs z 0 (List.replicate 32 0#8) [] 0 0 0 none none none := by
  have hxm : ls[i] ∈ ls := List.getElem_mem hil
  refine cutP_mk (N := N) HP hB8 bO b19 b20 b23 hC hlen heqz heqo hgms hhpb hsep F8 hS F9 ⟨by omega, by omega, by omega⟩ ⟨by omega, by omega, by omega⟩ ⟨by omega, by omega, by omega⟩ hfree k19 k20 k23 hz
    (fun o ho y hy => hsep _ hxm o (hsub o ho) y hy) (fun b off e => ?_) (fun b off e => ?_) zask (by simp) rfl (Rd.nil_ _ _ _ _) (Rd.nil_ _ _ _ _) (fun b off e => by cases e) (fun b off e => by cases e)
    (fun W _ _ => (over_nil W).mono (fun e w' ⟨h1, h2⟩ => ⟨h1, by rw [← h2]; exact World.grownBy.refl _ _⟩)) (fun b e => by cases e)
  · rcases hA with h | h
    · exact HP.farh _ hxm b off (by rw [← h]; exact e)
    · rw [h] at e; cases e
  · exact HP.fara _ hxm b off (by rw [← aA]; exact e)
theorem rd_frm {w w' : World} {S : List Nat} {B : Nat} {A : Option Addr} {ns : List (BitVec 8)} (h : Rd b8 w B A ns) (hB : B ≤ w.heap.size) (f : Frm w w' S) (hA : ∀ (b off : Nat), A = some ⟨b, off, none⟩ → b ∉ S) : Rd b8 w' B A ns := fun hn => by
  obtain ⟨b, off, e, hlt, hc⟩ := h hn
  exact ⟨b, off, e, hlt, fun j u hu => by rw [← hc j u hu]; exact World.cell?_of_block (f.block b (by omega) (hA b off e))⟩
theorem own_block {w W : World} {B g c m : Nat} {ns : List (BitVec 8)} (h : Own b8 w B 5 (.slice (some ⟨g, 0, none⟩) m c) ns) (hb : W.heap[g]? = w.heap[g]?) : Own b8 W B 5 (.slice (some ⟨g, 0, none⟩) m c) ns := by
  refine ⟨h.1, ?_⟩
  rcases h.2 with ⟨e, -⟩ | ⟨g', cap, cur, e, hbg, hg, rest⟩
  · cases e
  · refine .inr ⟨g', cap, cur, e, hbg, ?_, rest⟩
    injection e with e1 _ _
    injection e1 with e1
    injection e1 with e1 _ _
    subst e1
    exact hb.trans hg
theorem own_ty {w : World} {B g c m : Nat} {ns : List (BitVec 8)} (h : Own b8 w B 5 (.slice (some ⟨g, 0, none⟩) m c) ns) : ∃ cs, w.heap[g]? = some (.cells cs 5 (0, 0)) := by
  rcases h.2 with ⟨e, -⟩ | ⟨g', cap, cur, e, hbg, hg, rest⟩
  · cases e
  · injection e with e1 _ _
    injection e1 with e1
    injection e1 with e1 _ _
    subst e1
    exact ⟨cur, hg⟩
theorem cutP_look {w w8 w9 w10 w11 w13 : World} {top gC gl g : Nat} {spare : List Value} {ys : List LP} {ls : List RL} {N i J gO g19 g20 g23 : Nat} {opc : List Value} {n : Int} {gk ck gn off c : Nat}
    (HP : PlayAt w8 w.heap.size top gC gl g spare ys ls) (hB8 : Below w.heap.size w w8) (hiy : i < ys.length) (hil : i < ls.length) (hN : ys.length = N) (bO : Blk w8 gO 58 opc) (b19 : Blk w8 g19 32 zeroOnce) (b20 : Blk w8 g20 38 zeroOnce) (b23 : Blk w8 g23 56 ls[i].cells)
    (htO : top ≤ gO) (h19 : gO < g19) (h20 : g19 < g20) (h23 : g20 < g23) (hgt : g < top) (hwO : w.heap.size ≤ gO) (hfree : ∀ x ∈ ls, Free g19 x ∧ Free g20 x ∧ Free g23 x) (hask : ∀ x ∈ ls, x.l.asked.length + 1 ≤ J)
    (hE : takeE ys[i].l n = 0) (hgk : w8.heap.size ≤ gk) (hO9 : Own b8 w9 w8.heap.size 5 (.slice (some ⟨gk, 0, none⟩) 12 ck) (takeO ys[i].l n).nonce) (hb9 : Below w8.heap.size w8 w9)
    (h10 : Blk w10 g19 32 (onceC n (takeO ys[i].l n).key (.slice (some ⟨gk, 0, none⟩) 12 ck))) (hg10 : w9.grownBy w10 (some g19))
    (hro : RO.At w11 ⟨takeO ls[i].l n, gn, off, c⟩) (hb11 : Below w10.heap.size w10 w11)
    (hg13 : w11.grownBy w13 (some g20)) (h13 : Blk w13 g20 38 (onceC n (takeO ls[i].l n).key (.slice (some ⟨gn, off, none⟩) 12 c))) :
    CutP w13 w w.heap.size top gC gl g spare ls N i J gO g19 g20 g23 opc ys ls[i] n (takeO ys[i].l n).key (takeO ys[i].l n).nonce 12 ck c (some ⟨gk, 0, none⟩) (some ⟨gn, off, none⟩) (some gk) := by
  have hxl : ls[i].l = ys[i].l := HP.eq i hiy hil
  have hxm : ls[i] ∈ ls := List.getElem_mem hil
  have hym : ys[i] ∈ ys := List.getElem_mem hiy
  rw [hxl] at hro h13
  obtain ⟨hkl, hnl⟩ := takeO_lens ((HP.ch.at_ hiy).ok _ hym).lok hE
  have s9 := hb9.size
  have s10 := hg10.size
  have s11 := hb11.size
  have s13 := hg13.size
  have l23 := b23.lt
  have b19' : Blk w9 g19 32 zeroOnce := b19.below hb9 b19.lt
  have b20' : Blk w9 g20 38 zeroOnce := b20.below hb9 b20.lt
  have b23' : Blk w9 g23 56 ls[i].cells := b23.below hb9 b23.lt
  have ty19 : Typed w9 g19 := Typed.of b19' (by decide) (by decide) (by decide)
  have ty20 : Typed w9 g20 := Typed.of b20' (by decide) (by decide) (by decide)
  have ty23 : Typed w9 g23 := Typed.of b23' (by decide) (by decide) (by decide)
  have F8 : Frm w8 w9 [] := (Frm.refl w8 []).below hb9 (Nat.le_refl _)
  have F9 : Frm w9 w13 [g19, g20, g23] := ((((Frm.refl w9 _).grown hg10 (by simp)).below hb11 (Nat.le_refl _)).grown hg13 (by simp))
  have c20 : Blk w11 g20 38 zeroOnce := (b20'.grown hg10 (fun e => by injection e with e; omega)).below hb11 (by omega)
  have hro13 : RO.At w13 ⟨takeO ys[i].l n, gn, off, c⟩ := hro.other hg13 c20 (by decide)
  obtain ⟨cs, hty⟩ := own_ty hO9
  have hgklt : gk < w9.heap.size := (hO9.lt gk rfl).2
  have hnS : gk ∉ [g19, g20, g23] := fun hm => by
    simp only [List.mem_cons, List.not_mem_nil, or_false] at hm
    rcases hm with e | e | e <;> omega
  have hbk : w13.heap[gk]? = w9.heap[gk]? := F9.block gk hgklt hnS
  have hO13 := own_block hO9 hbk
  have hz13 : ∀ x ∈ ls, x.At w13 := fun x hx => ((HP.at_ x hx).below hb9 (Nat.le_refl _)).frm F9 (fun q hq => by
    obtain ⟨f1, f2, f3⟩ := hfree x hx
    simp only [List.mem_cons, List.not_mem_nil, or_false] at hq
    rcases hq with rfl | rfl | rfl <;> assumption)
  refine cutP_mk (N := N) HP hB8 bO ty19 ty20 ty23 ((HP.ch.at_ hiy).below hb9) hN (fun h => hxl.symm) (fun k h h2 _ => HP.eq k h h2) HP.gms HP.hpb HP.sep F8 (fun q hq => by cases hq) F9 ⟨by omega, by omega, by omega⟩ ⟨by omega, by omega, by omega⟩ ⟨by omega, by omega, by omega⟩ hfree
    ((h10.below hb11 (by omega)).grown hg13 (fun e => by injection e with e; omega)) h13 (((b23'.grown hg10 (fun e => by injection e with e; omega)).below hb11 (by omega)).grown hg13 (fun e => by injection e with e; omega)) (hz13 _ hxm)
    (fun o ho y hy => HP.sep _ hxm o ho y hy) (HP.farh _ hxm) (HP.fara _ hxm) (by have := hask _ hxm; omega) hkl hnl (rd_wider (hO13.rd) (Nat.le_refl _)) (rd_wider hro13.read (by have := hro13.lt; exact this))
    (fun b off e => by injection e with e; injection e with e _ _; subst e; exact ⟨cs, by rw [hbk]; exact hty⟩) (fun b off e => by injection e with e; injection e with e _ _; subst e; exact hro13.ty)
    (fun W hW hs => over_any (own_block hO13 (hW gk rfl)) (by rw [hnl]; omega)) (fun b e => ?_)
  injection e with e
  subst e
  refine ⟨by have := hB8.size; omega, by omega, ⟨cs, by rw [hbk]; exact hty⟩, fun y hy hm => ?_, fun x hx => Free.of_new (HP.at_ x hx) hgk, Free.of_new (HP.at_ _ hxm) hgk⟩
  have := (HP.ch.at_ hiy).blk_lt gk (List.mem_flatMap.2 ⟨y, hy, hm⟩)
  omega
theorem Free.sub {x z : RL} {q : Nat} (f : Free q x) (hs : ∀ o ∈ z.rs, o ∈ x.rs) (hA : z.hA = x.hA ∨ z.hA = none) (aA : z.aA = x.aA) (hask : z.l.asked = x.l.asked) : Free q z := by
  refine ⟨fun b' off e hp => ?_, fun b' off e hp => f.a b' off (by rw [← aA]; exact e) (by rw [← hask]; exact hp), fun o ho => f.r o (hs o ho)⟩
  rcases hA with h | h
  · refine f.h b' off (by rw [← h]; exact e) ?_
    rcases Nat.eq_zero_or_pos x.rs.length with h3 | h3
    · exfalso
      cases hq : z.rs with
      | nil => rw [hq] at hp; simp at hp
      | cons o r =>
        have h4 := hs o (by rw [hq]; simp)
        rw [List.eq_nil_of_length_eq_zero h3] at h4
        cases h4
    · exact h3
  · rw [h] at e; cases e
theorem jumpL_asked (l : LineM) (n : Int) : (jumpL l n).asked = l.asked := by unfold jumpL; split <;> rfl
end Go.Proofs.YtmncihhofppkdaaDoor

/- PLAIN LEMMAS: how a slice of structs that came in is read. No conditions. -/
namespace Go.Proofs.YtmncihhofppkdaaDoor
open Go.ChangeShapes Go.WideShapes Go.ChangeAt Go.RowKit
set_option linter.unusedVariables false
theorem rflat_get {α β : Type} {f : α → List β} {K : Nat} (hK0 : 0 < K) : ∀ {xs : List α} {j : Nat} {u : β}, (∀ x ∈ xs, (f x).length = K) → (xs.flatMap f)[j]? = some u → ∃ x, xs[j / K]? = some x ∧ (f x)[j % K]? = some u
  | [], j, u, _, h => by simp at h
  | x :: xs, j, u, hK, h => by
    have hx := hK x (by simp)
    rw [List.flatMap_cons] at h
    by_cases hj : j < K
    · rw [List.getElem?_append_left (by omega)] at h
      refine ⟨x, ?_, ?_⟩
      · rw [Nat.div_eq_of_lt hj]; rfl
      · rw [Nat.mod_eq_of_lt hj]; exact h
    · rw [List.getElem?_append_right (by omega), hx] at h
      obtain ⟨y, h1, h2⟩ := rflat_get hK0 (xs := xs) (fun z hz => hK z (by simp [hz])) h
      have e1 : j / K = (j - K) / K + 1 := by rw [Nat.div_eq_sub_div hK0 (by omega)]
      have e2 : j % K = (j - K) % K := Nat.mod_eq_sub_mod (by omega)
      exact ⟨y, by rw [e1]; simpa using h1, by rw [e2]; exact h2⟩
section
variable {H : Type} {enc : TypeId × Value → H} {P : Program} {w : World} {base : Nat} {spare : Nat → Bool} {held : Bool}
theorem open_rowS {α : Type} [Inhabited α] (f : α → List Value) (K : Nat) (hK0 : 0 < K) (good : α → Prop) {t e : TypeId} {fuel : Nat} {x : DataW H × List MemPlace} {A : Option Addr} {n c : Nat} (ht : P.underlying t = some (.slice e)) (hc : P.cellsOf e = K)
    (hel : ∀ (m : Nat) (L : List Value) (y : DataW H × List MemPlace), DataW.trod enc P w base spare held m e L = some y → ∃ x, L = f x ∧ (f x).length = K ∧ good x)
    (h : DataW.trod enc P w base spare held fuel t (Value.slice A n c).cells.toList = some x) :
    ∃ xs : List α, RdV w w.heap.size A (xs.flatMap f) ∧ (∀ x ∈ xs, good x) ∧ xs.length = n ∧ n ≤ c ∧ c ≤ maxLen := by
  rcases DataW.trod_slice ht h with ⟨hcs, _⟩ | ⟨a, l, cap, elems, rest, m, _, hcs, _, hb, hl, hm, hlen, hels, _, _⟩
  · simp [Value.cells] at hcs
    obtain ⟨rfl, rfl, rfl⟩ := hcs
    exact ⟨[], Rd.nil_ _ _ _ _, by simp, rfl, Nat.le_refl _, by simp [maxLen]⟩
  · simp [Value.cells] at hcs
    obtain ⟨rfl, rfl, rfl⟩ := hcs
    have each : ∀ i, i < n → ∃ x : α, (f x).length = K ∧ good x ∧ ∀ j u, (f x)[j]? = some u → w.cell? (a.add (i * K + j)) = some u := by
      intro i hi
      have h1 := hels i hi
      rw [List.getElem?_eq_getElem (by omega), hc] at h1
      obtain ⟨L, h2, h3⟩ := Option.bind_eq_some_iff.1 h1
      obtain ⟨x, rfl, hk, hg⟩ := hel _ _ _ h3
      refine ⟨x, hk, hg, fun j u hu => ?_⟩
      have hj : j < K := by have := (List.getElem?_eq_some_iff.1 hu).1; omega
      have h4 := (World.cells?_some h2).2.2 j hj
      rw [Deep.add_add] at h4
      rw [h4]; exact hu
    obtain ⟨g, hg⟩ := Deep.choose_lt each
    have hlen' : ∀ x ∈ (List.range n).map g, (f x).length = K := by
      intro x hx
      obtain ⟨i, hi, rfl⟩ := List.mem_map.1 hx
      exact (hg i (List.mem_range.1 hi)).1
    refine ⟨(List.range n).map g, fun hp => ?_, ?_, by simp, hl, hm⟩
    · rw [rflat_len hlen', List.length_map, List.length_range] at hp
      have hn : 0 < n := Nat.pos_of_mul_pos_right hp
      obtain ⟨h1, -, h2⟩ := hg 0 hn
      obtain ⟨u0, hu0⟩ : ∃ u, (f (g 0))[0]? = some u := ⟨_, List.getElem?_eq_getElem (by omega)⟩
      have h0 := h2 0 u0 hu0
      obtain ⟨b, off, spot⟩ := a
      have hspot : spot = none := by simpa [Addr.add] using World.cell?_spot h0
      subst hspot
      refine ⟨b, off, rfl, lt_of_cell (a := ⟨b, off, none⟩) (by simpa [Addr.add] using h0), fun j u hu => ?_⟩
      obtain ⟨x, hx1, hx2⟩ := rflat_get hK0 hlen' hu
      rw [List.getElem?_map] at hx1
      obtain ⟨i, hi, rfl⟩ := Option.map_eq_some_iff.1 hx1
      have hi2 := List.getElem?_eq_some_iff.1 hi
      obtain ⟨hi3, hi4⟩ := hi2
      rw [List.getElem_range] at hi4
      subst hi4
      rw [List.length_range] at hi3
      have h5 := (hg _ hi3).2.2 _ _ hx2
      rw [Addr.add_lit, Nat.div_add_mod' j K] at h5
      exact h5
    · intro x hx
      obtain ⟨i, hi, rfl⟩ := List.mem_map.1 hx
      exact (hg i (List.mem_range.1 hi)).2.1
end
/-- an Op -/
structure Op19 where
  kd : Int
  i : Int
  n : Int
instance : Inhabited Op19 := ⟨⟨0, 0, 0⟩⟩
def Op19.cells (x : Op19) : List Value := [.int .i64 x.kd, .int .i64 x.i, .int .i64 x.n]
structure Op19.Ok (x : Op19) : Prop where
  i0 : -9223372036854775808 ≤ x.i
  i1 : x.i < 9223372036854775808
  n0 : -9223372036854775808 ≤ x.n
  n1 : x.n < 9223372036854775808
section
variable {H : Type} {enc : TypeId × Value → H} {w : World} {base : Nat} {spare : Nat → Bool} {held : Bool}
set_option maxRecDepth 100000 in
theorem open_op19 {m : Nat} {L : List Value} {y : DataW H × List MemPlace} (h : DataW.trod enc Tryd.prog w base spare held m 58 L = some y) : ∃ x : Op19, L = x.cells ∧ x.cells.length = 3 ∧ x.Ok := by
  obtain ⟨y0, y1, y2, k, -, hl, h0, h1, h2⟩ := Deep.trod_struct3 Tryd.underlying58 h
  have hl3 : L.length = 3 := hl
  obtain ⟨z0, e0, -, wf0⟩ := DataW.trod_int Tryd.underlying3 h0
  obtain ⟨z1, e1, -, wf1⟩ := DataW.trod_int Tryd.underlying3 h1
  obtain ⟨z2, e2, -, wf2⟩ := DataW.trod_int Tryd.underlying3 h2
  have b1 := bounds_i64 wf1
  have b2 := bounds_i64 wf2
  refine ⟨⟨z0, z1, z2⟩, ?_, rfl, ⟨b1.1, by have := b1.2; show z1 < 9223372036854775808; omega, b2.1, by have := b2.2; show z2 < 9223372036854775808; omega⟩⟩
  have q0 : List.take (Tryd.prog.cellsOf 3) (List.drop 0 L) = [.int .i64 z0] := e0
  have q1 : List.take (Tryd.prog.cellsOf 3) (List.drop 1 L) = [.int .i64 z1] := e1
  have q2 : List.take (Tryd.prog.cellsOf 3) (List.drop 2 L) = [.int .i64 z2] := e2
  rw [show Tryd.prog.cellsOf 3 = 1 by kernel_rfl] at q0 q1 q2
  obtain ⟨a, b, c, rfl⟩ : ∃ a b c, L = [a, b, c] := by
    match L, hl3 with
    | [a, b, c], _ => exact ⟨a, b, c, rfl⟩
  simp at q0 q1 q2
  subst q0; subst q1; subst q2
  rfl
theorem open_ops19 {fuel : Nat} {x : DataW H × List MemPlace} {A : Option Addr} {n c : Nat} (h : DataW.trod enc Tryd.prog w base spare held fuel 51 (Value.slice A n c).cells.toList = some x) :
    ∃ xs : List Op19, RdV w w.heap.size A (xs.flatMap Op19.cells) ∧ (∀ x ∈ xs, x.Ok) ∧ xs.length = n := by
  obtain ⟨xs, h1, h2, h3, -, -⟩ := open_rowS Op19.cells 3 (by decide) Op19.Ok Tryd.underlying51 (by kernel_rfl) (fun m L y hy => by
    obtain ⟨x, e, hl, ho⟩ := open_op19 hy
    exact ⟨x, e, hl, ho⟩) h
  exact ⟨xs, h1, h2, h3⟩
end
end Go.Proofs.YtmncihhofppkdaaDoor
