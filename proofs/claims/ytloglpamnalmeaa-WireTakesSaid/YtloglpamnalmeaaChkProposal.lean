/- CONTRACT: wire.check for Proposal. -/
import Derived.Test.YtloglpamnalmeaaEyes
import Derived.Test.YtloglpamnalmeaaBase
import Derived.Test.YtloglpamnalmeaaPropD
namespace Go.Proofs.Ytloglpamnalmeaa
open Go.RowKit
set_option linter.unusedVariables false
set_option linter.unusedSimpArgs false

def zerosProposal : List Value := propC zProp none 0
theorem zerosProposal_len : zerosProposal.length = 263 := by decide +kernel
theorem zerosProposal_one : ∀ u ∈ zerosProposal, u.oneCell' = true := by decide +kernel
theorem infoProposal : (Try.prog.info? 71).map (·.size) = some 263 := by kernel_rfl
set_option maxRecDepth 100000 in
set_option maxHeartbeats 4000000 in
theorem checkProposal_any {w : World} {B g : Nat} {rest : List (BitVec 8)} {bad : Bool} (hE : Eye w B g rest bad) {A0 : Option Addr} {n0 c0 B0 : Nat} {bs : List (BitVec 8)} (hb : Rd b8 w B0 A0 bs) (hB0 : B0 ≤ w.heap.size) (hn0 : bs.length = n0) (hy0 : n0 ≤ 1000000)
    (cs : List Value) (hcs : cs.length = 263) (hone : ∀ u ∈ cs, u.oneCell' = true) (X : List (BitVec 8)) (r : Bool)
    (hput : ∀ W3, Below w.heap.size w W3 → Calls Try.prog 32 #[.agg cs.toArray] W3 fun e w' => ∃ v, e = .returned (.tuple #[v, errV (if r then 3 else 0)]) ∧ Own b8 w' W3.heap.size 5 v (if r then [] else X) ∧ Below W3.heap.size W3 w') :
    Calls Try.prog 80 #[.pointer (some ⟨g, 0, none⟩), .slice A0 n0 c0, .agg cs.toArray, .func (.func 32) #[] #[]] w fun e w' =>
      e = .returned (if chkGood bad rest bs r X then .tuple #[.agg cs.toArray, .nilIface] else .tuple #[.agg zerosProposal.toArray, .iface 108 (.int .i64 3)]) ∧ Below w.heap.size w w' := by
  have HPut := Lib.hid hput
  have HBs := Lib.hid hb
  have HN0 := Lib.hid hn0
  have HCs := Lib.hid hcs
  have HOne := Lib.hid hone
  have hgl := hE.lt
  have hgl1 : g < w.heap.size + 1 := by omega
  have hgl2 : g < w.heap.size + 1 + 1 := by omega
  obtain ⟨⟨Ae, ce, he, hre, hce⟩, hle⟩ := hE
  have ce0 := he.cell 0 rfl
  have ce1 := he.cell 1 rfl
  have HF := Lib.hid (show ∀ W3, ((w.alloc (.cells cs.toArray 71)).alloc (.cells zerosProposal.toArray 71)).alloc (.cells zerosProposal.toArray 71) = W3 →
      Blk W3 w.heap.size 71 cs ∧ Blk W3 (w.heap.size + 1) 71 zerosProposal ∧ Blk W3 (w.heap.size + 1 + 1) 71 zerosProposal ∧ Below w.heap.size w W3 ∧ W3.heap.size = w.heap.size + 3 by
    rintro W3 rfl
    refine ⟨Blk.alloc (Blk.alloc (Blk.new w _ _) _) _, Blk.alloc (Blk.at_size _ _ (by simp)) _, Blk.at_size _ _ (by simp), (((Below.refl _ _).alloc (Nat.le_refl _) _).alloc (by simp) _).alloc (by simp; omega) _, by simp⟩)
  obtain ⟨q, hq⟩ : ∃ q, q = chkGood bad rest bs r X := ⟨_, rfl⟩
  rw [← hq]
  have HQ := Lib.hid hq
  clear he hre hput hb hn0 hq hcs hone
  cases bad with
  | true =>
    have hq0 : q = false := by rw [HQ.out]; unfold chkGood; simp
    subst hq0
    go_enter Try.func80, Try.ntmps80
    go_wp2_with (first
      | (generalize hW3 : World.alloc (World.alloc (World.alloc w _) _) _ = W3; have hf3 := HF.out W3 hW3; clear hW3; obtain ⟨hp3, hz3, hn3, hb3, hs3⟩ := hf3; have HZ3 := Lib.hid hz3; have HN3 := Lib.hid hn3; have HB3 := Lib.hid hb3; clear hp3 hz3 hn3 hb3; refine wpList_load_mid rfl 71 (.tmp 10) rfl (w.heap.size + 1 + 1) 0 rfl zerosProposal _ (Blk.whole HN3.out) Try.underlying71 rfl (by rw [zerosProposal_len]; exact infoProposal) ?_)
      | (refine wpList_store_blk rfl 71 _ _ rfl (w.heap.size + 1) rfl zerosProposal rfl _ _ HZ3.out rfl (by rw [zerosProposal_len]; exact infoProposal) zerosProposal_one ?_; intro w4 hp4 hg4; have HP4 := Lib.hid hp4; have HG4 := Lib.hid hg4; clear hp4 hg4))
    refine bodyPost_ret (v := .tuple #[.agg zerosProposal.toArray, .iface 108 (.int .i64 3)]) (results_blk_tmp (g := w.heap.size + 1) rfl _ _ _ _ _ _ rfl rfl HP4.out Try.underlying71 rfl (by rw [zerosProposal_len]; exact infoProposal)) rfl ?_
    exact ⟨rfl, HB3.out.grown HG4.out (by omega) (fun k e => by cases e; omega)⟩
  | false =>
    by_cases hrest : rest = []
    · subst hrest
      go_enter Try.func80, Try.ntmps80
      go_wp2_with (generalize hW3 : World.alloc (World.alloc (World.alloc w _) _) _ = W3; have hf3 := HF.out W3 hW3; clear hW3; obtain ⟨hp3, hz3, hn3, hb3, hs3⟩ := hf3; have HP3 := Lib.hid hp3; have HZ3 := Lib.hid hz3; have HN3 := Lib.hid hn3; have HB3 := Lib.hid hb3; clear hp3 hz3 hn3 hb3; refine wpList_load_mid rfl 71 (.tmp 6) rfl w.heap.size 0 rfl cs _ (Blk.whole HP3.out) Try.underlying71 rfl (by rw [HCs.out]; exact infoProposal) ?_)
      refine (HPut.out W3 HB3.out).mono ?_
      rintro e w4 ⟨v4, rfl, ho4, hb4⟩
      have HZ4 := Lib.hid (HZ3.out.below hb4 (by omega))
      have HN4 := Lib.hid (HN3.out.below hb4 (by omega))
      have HP4 := Lib.hid (HP3.out.below hb4 (by omega))
      have HB4 := Lib.hid (HB3.out.trans (hb4.mono (by omega)))
      have hz4 : W3.heap.size ≤ w4.heap.size := hb4.size
      cases r with
      | true =>
        have hq0 : q = false := by rw [HQ.out]; unfold chkGood; simp
        subst hq0
        rw [if_pos rfl, errV_pos (by simp)]
        clear ho4 hb4
        go_wp2_with (first
          | (refine wpList_load_mid rfl 71 (.tmp 10) rfl (w.heap.size + 1 + 1) 0 rfl zerosProposal _ (Blk.whole HN4.out) Try.underlying71 rfl (by rw [zerosProposal_len]; exact infoProposal) ?_)
          | (refine wpList_store_blk rfl 71 _ _ rfl (w.heap.size + 1) rfl zerosProposal rfl _ _ HZ4.out rfl (by rw [zerosProposal_len]; exact infoProposal) zerosProposal_one ?_; intro w6 hp6 hg6; have HP6 := Lib.hid hp6; have HG6 := Lib.hid hg6; clear hp6 hg6))
        refine bodyPost_ret (v := .tuple #[.agg zerosProposal.toArray, .iface 108 (.int .i64 3)]) (results_blk_tmp (g := w.heap.size + 1) rfl _ _ _ _ _ _ rfl rfl HP6.out Try.underlying71 rfl (by rw [zerosProposal_len]; exact infoProposal)) rfl ?_
        exact ⟨rfl, HB4.out.grown HG6.out (by omega) (fun k e => by cases e; omega)⟩
      | false =>
        rw [if_neg (by simp)] at ho4
        rw [if_neg (by simp), errV_zero]
        obtain ⟨A4, c4, rfl, hr4, -, -, -⟩ := ho4.shape
        have HR4 := Lib.hid hr4
        clear ho4 hb4 hr4
        go_wp2_with fail
        have heq := equal_any (B1 := B0) (B2 := w4.heap.size) (c1 := c0) (c2 := c4) (HBs.out.below (HB4.out.mono hB0)) HR4.out HN0.out rfl (by omega) (Nat.le_refl _) (by omega)
        obtain ⟨y, hy'⟩ : ∃ y, y = (bs == X) := ⟨_, rfl⟩
        rw [← hy'] at heq
        have HEq := Lib.hid heq
        have HYy := Lib.hid hy'
        clear heq hy'
        refine HEq.out.mono ?_
        rintro e w5 ⟨rfl, hb5⟩
        have hz5 : w4.heap.size ≤ w5.heap.size := hb5.size
        have HZ4 := Lib.hid (HZ4.out.below hb5 (by omega))
        have HN4 := Lib.hid (HN4.out.below hb5 (by omega))
        have HP4 := Lib.hid (HP4.out.below hb5 (by omega))
        have HB4 := Lib.hid (HB4.out.trans (hb5.mono (by omega)))
        clear hb5
        cases y with
        | false =>
          have hq0 : q = false := by rw [HQ.out]; unfold chkGood; rw [← HYy.out]; simp
          subst hq0
          go_wp2_with (first
            | (refine wpList_load_mid rfl 71 (.tmp 10) rfl (w.heap.size + 1 + 1) 0 rfl zerosProposal _ (Blk.whole HN4.out) Try.underlying71 rfl (by rw [zerosProposal_len]; exact infoProposal) ?_)
            | (refine wpList_store_blk rfl 71 _ _ rfl (w.heap.size + 1) rfl zerosProposal rfl _ _ HZ4.out rfl (by rw [zerosProposal_len]; exact infoProposal) zerosProposal_one ?_; intro w6 hp6 hg6; have HP6 := Lib.hid hp6; have HG6 := Lib.hid hg6; clear hp6 hg6))
          refine bodyPost_ret (v := .tuple #[.agg zerosProposal.toArray, .iface 108 (.int .i64 3)]) (results_blk_tmp (g := w.heap.size + 1) rfl _ _ _ _ _ _ rfl rfl HP6.out Try.underlying71 rfl (by rw [zerosProposal_len]; exact infoProposal)) rfl ?_
          exact ⟨rfl, HB4.out.grown HG6.out (by omega) (fun k e => by cases e; omega)⟩
        | true =>
          have hq0 : q = true := by rw [HQ.out]; unfold chkGood; rw [← HYy.out]; rfl
          subst hq0
          go_wp2_with (first
            | (refine wpList_load_mid rfl 71 (.tmp 6) rfl w.heap.size 0 rfl cs _ (Blk.whole HP4.out) Try.underlying71 rfl (by rw [HCs.out]; exact infoProposal) ?_)
            | (refine wpList_store_blk rfl 71 _ _ rfl (w.heap.size + 1) rfl cs rfl _ _ HZ4.out (by rw [zerosProposal_len, HCs.out]) (by rw [HCs.out]; exact infoProposal) HOne.out ?_; intro w6 hp6 hg6; have HP6 := Lib.hid hp6; have HG6 := Lib.hid hg6; clear hp6 hg6))
          refine bodyPost_ret (v := .tuple #[.agg cs.toArray, .nilIface]) (results_blk_tmp (g := w.heap.size + 1) rfl _ _ _ _ _ _ rfl rfl HP6.out Try.underlying71 rfl (by rw [HCs.out]; exact infoProposal)) rfl ?_
          exact ⟨rfl, HB4.out.grown HG6.out (by omega) (fun k e => by cases e; omega)⟩
    · have hl : (0 : Int) < (rest.length : Int) := by have := List.length_pos_iff.2 hrest; omega
      have hq0 : q = false := by rw [HQ.out]; unfold chkGood; cases rest with
        | nil => exact absurd rfl hrest
        | cons x xs => simp
      subst hq0
      clear hrest
      go_enter Try.func80, Try.ntmps80
      go_wp2_with (first
        | (generalize hW3 : World.alloc (World.alloc (World.alloc w _) _) _ = W3; have hf3 := HF.out W3 hW3; clear hW3; obtain ⟨hp3, hz3, hn3, hb3, hs3⟩ := hf3; have HZ3 := Lib.hid hz3; have HN3 := Lib.hid hn3; have HB3 := Lib.hid hb3; clear hp3 hz3 hn3 hb3; refine wpList_load_mid rfl 71 (.tmp 10) rfl (w.heap.size + 1 + 1) 0 rfl zerosProposal _ (Blk.whole HN3.out) Try.underlying71 rfl (by rw [zerosProposal_len]; exact infoProposal) ?_)
        | (refine wpList_store_blk rfl 71 _ _ rfl (w.heap.size + 1) rfl zerosProposal rfl _ _ HZ3.out rfl (by rw [zerosProposal_len]; exact infoProposal) zerosProposal_one ?_; intro w4 hp4 hg4; have HP4 := Lib.hid hp4; have HG4 := Lib.hid hg4; clear hp4 hg4))
      refine bodyPost_ret (v := .tuple #[.agg zerosProposal.toArray, .iface 108 (.int .i64 3)]) (results_blk_tmp (g := w.heap.size + 1) rfl _ _ _ _ _ _ rfl rfl HP4.out Try.underlying71 rfl (by rw [zerosProposal_len]; exact infoProposal)) rfl ?_
      exact ⟨rfl, HB3.out.grown HG4.out (by omega) (fun k e => by cases e; omega)⟩
end Go.Proofs.Ytloglpamnalmeaa
