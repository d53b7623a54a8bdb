/- CONTRACT: wire.TakeTree. -/
import Derived.Test.YtloglpamnalmeaaChkTree
import Derived.Test.YtloglpamnalmeaaTreeLaw
namespace Go.Proofs.Ytloglpamnalmeaa
open Go.RowKit
set_option linter.unusedVariables false
set_option linter.unusedSimpArgs false

set_option maxRecDepth 100000 in
set_option maxHeartbeats 4000000 in
theorem takeTree_any {w : World} {B' : Nat} {A : Option Addr} {n c : Nat} {bs : List (BitVec 8)} (hr : Rd b8 w B' A bs) (hB' : B' ≤ w.heap.size) (hn : bs.length = n) (hnc : n ≤ c) (hy : n ≤ 1000000) :
    Calls Try.prog 28 #[.slice A n c] w fun e w' => Below w.heap.size w w' ∧
      ((goodT bs = true ∧ ∃ v ts, e = .returned (.tuple #[v, .nilIface]) ∧ OwnT w' w.heap.size v ts ∧ ts.map (·.x) = (pList pNode (bs, false)).1) ∨
       (goodT bs = false ∧ e = .returned (.tuple #[.slice none 0 0, .iface 108 (.int .i64 3)]))) := by
  have HR := Lib.hid hr
  have HN := Lib.hid hn
  have hb0 : bs.length ≤ 1000000 := by rw [hn]; exact hy
  have C1 := Lib.hid (fun (W : World) (h : EyeS W w.heap.size w.heap.size (bs, false)) => manyNode_any h (show bs.length ≤ 10000000 by omega))
  obtain ⟨L, hL⟩ : ∃ L, L = (pList pNode (bs, false)).1 := ⟨_, rfl⟩
  obtain ⟨⟨R, D⟩, hs⟩ : ∃ s, s = (pList pNode (bs, false)).2 := ⟨_, rfl⟩
  obtain ⟨q, hq⟩ : ∃ q, q = goodT bs := ⟨_, rfl⟩
  have hqq : q = chkGood D R bs (treeBadX L || decide (65536 < (treeBX L).length)) (treeBX L) := by rw [hq]; unfold goodT; rw [← hL, ← hs]
  have hLum : ∀ x ∈ L, x.um.length ≤ 300 := by rw [hL]; exact pMany_all pNode (fun x => x.um.length ≤ 300) (fun s => by have := pNode_um s; omega) _ _
  have hLl : L.length ≤ 255 := by rw [hL]; exact pList_len _ _
  rw [← hq, ← hL]
  simp only [← hL, ← hs] at C1
  have HQ := Lib.hid hqq
  have HLum := Lib.hid hLum
  have HF := Lib.hid (show ∀ W1, w.alloc (.cells #[.slice A n c, .bool false] 121) = W1 → EyeS W1 w.heap.size w.heap.size (bs, false) ∧ Below w.heap.size w W1 ∧ W1.heap.size = w.heap.size + 1 by
    rintro W1 rfl
    have hb : Below w.heap.size w (w.alloc (.cells #[.slice A n c, .bool false] 121)) := (Below.refl _ _).alloc (Nat.le_refl _) _
    refine ⟨⟨⟨A, c, ?_, (HR.out.below (hb.mono hB')).more hB', by rw [HN.out]; exact hnc⟩, Nat.le_refl _⟩, hb, by simp⟩
    rw [HN.out]
    exact Blk.new w _ _)
  clear hr hn hb0 hL hs hq hqq hLum
  go_enter Try.func28, Try.ntmps28
  go_wp2_with fail
  generalize hW1 : World.alloc w _ = W1
  obtain ⟨he1, hb1, hz1⟩ := HF.out W1 hW1
  clear hW1 HF
  have HE1 := Lib.hid he1
  have HB1 := Lib.hid hb1
  clear he1 hb1
  refine (C1.out _ HE1.out).mono ?_
  rintro e w2 ⟨v2, ts, rfl, ho2, hx2, he2, hg2⟩
  have hsz2 : W1.heap.size ≤ w2.heap.size := hg2.size
  have HB2 := Lib.hid (HB1.out.trans (below_grown hg2 (by omega) (by omega)) : Below w.heap.size w w2)
  obtain ⟨A2, c2, rfl, hr2, -, -, -⟩ := ho2.shape
  have HE2 := Lib.hid he2
  have HO2 := Lib.hid ho2
  have HX2 := Lib.hid hx2
  have hnl : ts.length ≤ 255 := by rw [← List.length_map (f := fun t : TN => t.x), hx2]; exact hLl
  have hum2 : ∀ t ∈ ts, t.x.um.length ≤ 300 := fun t ht => HLum.out t.x (by rw [← hx2]; exact List.mem_map_of_mem ht)
  have hck := checkTree_any (c0 := c) HE2.out (HR.out.below (HB2.out.mono hB')) (by omega) HN.out hy A2 ts.length c2 (treeBX L) (treeBadX L || decide (65536 < (treeBX L).length))
    (fun W3 hb => by
      have h := putTree_any (n := ts.length) (c := c2) (hr2.below hb) hb.size rfl (by omega) hum2
      rw [treeBad_X, treeB_X, hx2] at h
      exact h)
  rw [← HQ.out] at hck
  have HCk := Lib.hid hck
  clear hck hx2 he2 hg2 ho2 hr2 hum2 HE1 HB1 C1
  go_wp2_with fail
  cases q with
  | true =>
    rw [if_pos rfl] at HCk
    refine HCk.out.mono ?_
    rintro e w8 ⟨rfl, hb8⟩
    have hz8 : w2.heap.size ≤ w8.heap.size := hb8.size
    have HB8 := Lib.hid (HB2.out.trans (hb8.mono (by omega)))
    have HO8 := Lib.hid (HO2.out.below hb8 (Nat.le_refl _))
    clear hb8
    go_wp2_with fail
    go_ret2
    exact ⟨HB8.out, _, rfl, ts, HO8.out.less (by omega), HX2.out⟩
  | false =>
    rw [if_neg (by simp)] at HCk
    refine HCk.out.mono ?_
    rintro e w8 ⟨rfl, hb8⟩
    have hz8 : w2.heap.size ≤ w8.heap.size := hb8.size
    have HB8 := Lib.hid (HB2.out.trans (hb8.mono (by omega)))
    have HO8 := Lib.hid (HO2.out.below hb8 (Nat.le_refl _))
    clear hb8
    go_wp2_with fail
    go_ret2
    exact ⟨HB8.out, rfl⟩
end Go.Proofs.Ytloglpamnalmeaa
