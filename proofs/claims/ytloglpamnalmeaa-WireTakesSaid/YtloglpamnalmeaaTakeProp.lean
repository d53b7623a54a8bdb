/- CONTRACT: wire.TakeProposal. -/
import Derived.Test.YtloglpamnalmeaaChkProposal
import Derived.Test.YtloglpamnalmeaaReadProp
namespace Go.Proofs.Ytloglpamnalmeaa
open Go.RowKit
set_option linter.unusedVariables false
set_option linter.unusedSimpArgs false

set_option maxRecDepth 100000 in
set_option maxHeartbeats 4000000 in
theorem takeProp_any {w : World} {B' : Nat} {A : Option Addr} {n c : Nat} {bs : List (BitVec 8)} (hr : Rd b8 w B' A bs) (hB' : B' ≤ w.heap.size) (hn : bs.length = n) (hnc : n ≤ c) (hy : n ≤ 1000000) :
    Calls Try.prog 34 #[.slice A n c] w fun e w' => Below w.heap.size w w' ∧
      ((goodP bs = true ∧ ∃ A1 c1, e = .returned (.tuple #[.agg (propC (pProp (bs, false)).1 A1 c1).toArray, .nilIface]) ∧ Own cI w' w.heap.size 3 (.slice A1 (pProp (bs, false)).1.leaf.um.length c1) (pProp (bs, false)).1.leaf.um) ∨
       (goodP bs = false ∧ e = .returned (.tuple #[.agg zerosProposal.toArray, .iface 108 (.int .i64 3)]))) := by
  have HR := Lib.hid hr
  have HN := Lib.hid hn
  have hb0 : bs.length ≤ 1000000 := by rw [hn]; exact hy
  have C1 := Lib.hid (fun (W : World) (h : EyeS W w.heap.size (w.heap.size + 1) (bs, false)) => readProp_any h (show bs.length ≤ 10000000 by omega))
  have hok : (pProp (bs, false)).1.Ok := by rw [pProp]; exact prV_ok _
  have hum : (pProp (bs, false)).1.leaf.um.length ≤ 300 := by rw [pProp]; rw [prV_leaf]; have := (prLeaf_ok (prK (bs, false)) (prS5 (bs, false))).2; omega
  obtain ⟨V, hV⟩ : ∃ V, V = (pProp (bs, false)).1 := ⟨_, rfl⟩
  obtain ⟨⟨R, D⟩, hs⟩ : ∃ s, s = (pProp (bs, false)).2 := ⟨_, rfl⟩
  obtain ⟨q, hq⟩ : ∃ q, q = goodP bs := ⟨_, rfl⟩
  have hqq : q = chkGood D R bs (propBad V || decide (65536 < (propB V).length)) (propB V) := by rw [hq]; unfold goodP; rw [← hV, ← hs]
  rw [← hq, ← hV]
  simp only [← hV, ← hs] at C1
  rw [← hV] at hok hum
  have HQ := Lib.hid hqq
  have HOk := Lib.hid hok
  have HXl := Lib.hid (fun A c => propC_len hok A c)
  have HF := Lib.hid (show ∀ W1, (w.alloc (.cells zerosProposal.toArray 71)).alloc (.cells #[.slice A n c, .bool false] 121) = W1 →
      Blk W1 w.heap.size 71 zerosProposal ∧ EyeS W1 w.heap.size (w.heap.size + 1) (bs, false) ∧ Below w.heap.size w W1 ∧ w.heap.size + 2 ≤ W1.heap.size by
    rintro W1 rfl
    have hb : Below w.heap.size w ((w.alloc (.cells zerosProposal.toArray 71)).alloc (.cells #[.slice A n c, .bool false] 121)) := ((Below.refl _ _).alloc (Nat.le_refl _) _).alloc (by simp) _
    refine ⟨Blk.alloc (Blk.new w _ _) _, ⟨⟨A, c, ?_, (HR.out.below (hb.mono hB')).more hB', by rw [HN.out]; exact hnc⟩, by omega⟩, hb, by simp⟩
    rw [HN.out]
    exact Blk.at_size _ [.slice A n c, .bool false] (by simp))
  clear hr hn hb0 hV hs hq hqq hok
  go_enter Try.func34, Try.ntmps34
  go_wp2_with fail
  generalize hW1 : World.alloc (World.alloc w _) _ = W1
  obtain ⟨hp1, he1, hb1, hq1⟩ := HF.out W1 hW1
  clear hW1 HF
  have HP1 := Lib.hid hp1
  have HE1 := Lib.hid he1
  have HB1 := Lib.hid hb1
  clear hp1 he1 hb1
  refine (C1.out _ HE1.out).mono ?_
  rintro e w2 ⟨A2, c2, rfl, ho2, he2, hg2⟩
  have HE2 := Lib.hid he2
  have HP2 := Lib.hid (HP1.out.grown hg2 (by intro e; have := Option.some.inj e; omega))
  have HB2 := Lib.hid (HB1.out.trans (below_grown hg2 (by omega) (by omega)) : Below w.heap.size w w2)
  have hq2 := Nat.le_trans hq1 hg2.size
  have HO2 := Lib.hid (ho2.less (show w.heap.size + 2 ≤ W1.heap.size from hq1))
  have hck := checkProposal_any (c0 := c) HE2.out (HR.out.below (HB2.out.mono hB')) (by omega) HN.out hy (propC V A2 c2) (HXl.out _ _) (propC_one _ _ _) (propB V) (propBad V || decide (65536 < (propB V).length))
    (fun W3 hb => putProp_any V HOk.out (c := c2) (HO2.out.rd.below hb) hb.size hum)
  rw [← HQ.out] at hck
  have HCk := Lib.hid hck
  clear hck ho2 he2 hg2 HE1 HP1 HB1 C1 HE2
  go_wp2_with fail
  cases q with
  | true =>
    rw [if_pos rfl] at HCk
    refine HCk.out.mono ?_
    rintro e w10 ⟨rfl, hb10⟩
    have hz10 : w2.heap.size ≤ w10.heap.size := hb10.size
    have HP10 := Lib.hid (HP2.out.below hb10 (by omega))
    have HB10 := Lib.hid (HB2.out.trans (hb10.mono (by omega)))
    have HO10 := Lib.hid (HO2.out.below hb10 (Nat.le_refl _))
    clear hb10
    go_wp2_with (refine wpList_store_blk rfl 71 _ _ rfl w.heap.size rfl (propC V A2 c2) rfl _ _ HP10.out (by rw [zerosProposal_len, HXl.out]) (by rw [HXl.out]; exact infoProp) (propC_one _ _ _) ?_; intro w11 hp11 hg11; have HP11 := Lib.hid hp11; have HG11 := Lib.hid hg11; clear hp11 hg11)
    refine bodyPost_ret (v := .tuple #[.agg (propC V A2 c2).toArray, .nilIface]) (results_blk_tmp (g := w.heap.size) rfl _ _ _ _ _ _ rfl rfl HP11.out Try.underlying71 rfl (by rw [HXl.out]; exact infoProp)) rfl ?_
    exact ⟨HB10.out.grown HG11.out (by omega) (fun k e => by cases e; omega), A2, c2, rfl, (HO10.out.kept HG11.out (.inr (fun e => by have := HO10.out.lt _ e; omega))).less (by omega)⟩
  | false =>
    rw [if_neg (by simp)] at HCk
    refine HCk.out.mono ?_
    rintro e w10 ⟨rfl, hb10⟩
    have hz10 : w2.heap.size ≤ w10.heap.size := hb10.size
    have HP10 := Lib.hid (HP2.out.below hb10 (by omega))
    have HB10 := Lib.hid (HB2.out.trans (hb10.mono (by omega)))
    have HO10 := Lib.hid (HO2.out.below hb10 (Nat.le_refl _))
    clear hb10
    go_wp2_with (refine wpList_store_blk rfl 71 _ _ rfl w.heap.size rfl zerosProposal rfl _ _ HP10.out rfl (by rw [zerosProposal_len]; exact infoProp) zerosProposal_one ?_; intro w11 hp11 hg11; have HP11 := Lib.hid hp11; have HG11 := Lib.hid hg11; clear hp11 hg11)
    refine bodyPost_ret (v := .tuple #[.agg zerosProposal.toArray, .iface 108 (.int .i64 3)]) (results_blk_tmp (g := w.heap.size) rfl _ _ _ _ _ _ rfl rfl HP11.out Try.underlying71 rfl (by rw [zerosProposal_len]; exact infoProp)) rfl ?_
    exact ⟨HB10.out.grown HG11.out (by omega) (fun k e => by cases e; omega), rfl⟩
end Go.Proofs.Ytloglpamnalmeaa
