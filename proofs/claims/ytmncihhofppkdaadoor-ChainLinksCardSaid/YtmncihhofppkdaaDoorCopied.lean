/- CONTRACT: chain's line.copied. -/
import Derived.Test.YtmncihhofppkdaaDoorLineD
import Derived.Test.YtmncihhofppkdaaDoorMapsC
namespace Go.Proofs.YtmncihhofppkdaaDoor
open Go.RowKit
set_option linter.unusedVariables false
set_option linter.unusedSimpArgs false

def zeroLine : List Value := lineC false 0 0#64 (List.replicate 32 0#8) 0 (.map none)
set_option maxRecDepth 100000 in
set_option maxHeartbeats 2000000 in
theorem copied_any (w : World) (g o : Nat) (t : Bool) (h : Int) (s : BitVec 64) (link : List (BitVec 8)) (place : Int) (gm : Nat) (hr : w.rangeAt g o (lineC t h s link place (.map (some gm)))) (hl : link.length = 32) (hg : g < w.heap.size) (es : List (Int × Value)) (hm : MapO w gm es) :
    Calls Tryd.prog 33 #[.pointer (some ⟨g, o, none⟩)] w fun e w' => ∃ gn mn, e = .returned (.pointer (some ⟨gn, 0, none⟩)) ∧ w.heap.size ≤ gn ∧ w.heap.size ≤ mn ∧
      Blk w' gn 81 (lineC t h s link place (.map (some mn))) ∧ MapO w' mn es ∧ Below w.heap.size w w' := by
  have HS := Lib.hid hl
  have HM := Lib.hid hm
  have HR := Lib.hid hr
  have HZ := Lib.hid (show Blk (w.alloc (.cells zeroLine.toArray 81)) w.heap.size 81 zeroLine from Blk.new _ _ _)
  have c36 := hr 36 _ (lineC_36 hl)
  clear hr hl hm
  go_enter Tryd.func33, Tryd.ntmps33
  go_upto_region 2 with (first
    | (refine wpList_load_mid rfl 81 (.tmp 5) rfl g o rfl _ _ HR.out Tryd.underlying81 rfl (by rw [sizeLine, lineC_len _ _ _ _ _ _ HS.out]) ?_)
    | (refine wpList_store_piece rfl 81 (.tmp 3) (.tmp 6) rfl w.heap.size 0 rfl (lineC t h s link place (.map (some gm))) rfl 81 _ [] zeroLine [] HZ.out (by simp) rfl (by rw [lineC_len _ _ _ _ _ _ HS.out]; rfl) (by rw [sizeLine, lineC_len _ _ _ _ _ _ HS.out]) (lineC_one rfl) ?_; intro w2 hx2 hg2))
  have hB2 : Below w.heap.size w w2 := ((Below.refl _ w).alloc (Nat.le_refl _) _).grown hg2 (by simp) (fun k e => by cases e; exact Nat.le_refl _)
  have hz2 : w.heap.size + 1 ≤ w2.heap.size := by have := hg2.size; simpa using this
  have HX2 := Lib.hid (show Blk w2 w.heap.size 81 (lineC t h s link place (.map (some gm))) from hx2.cast (by simp))
  have HB2 := Lib.hid hB2
  have c36' := (hB2.cell (p := ⟨g, o + 36, none⟩) hg).trans c36
  have HC := Lib.hid (mclone_any w2 gm es (HM.out.below hB2 HM.out.lt))
  clear hx2 hg2 c36 HM HR HZ hB2
  go_wp2_with fail
  refine HC.out.mono ?_
  rintro e w3 ⟨rfl, hm3, hb3⟩
  have HX3 := Lib.hid (HX2.out.below hb3 (by omega))
  have HM3 := Lib.hid hm3
  have HB3 := Lib.hid (HB2.out.trans (hb3.mono (by omega)))
  have f36 := HX3.out.frozen 36
  have c36 := HX3.out.cell 36 (lineC_36 HS.out)
  have hz3 := hb3.size
  clear hm3 hb3 c36'
  go_wp2_with fail
  go_ret
  have hg4 := grownBy_set w3 w.heap.size 36 (.map (some w2.heap.size))
  exact ⟨w.heap.size, w2.heap.size, rfl, Nat.le_refl _, by omega, (HX3.out.set_ 36 _).cast (lineC_set36 HS.out _), HM3.out.kept hg4 (fun e => by injection e with e; omega), HB3.out.grown hg4 HB3.out.size (fun k e => by cases e; exact Nat.le_refl _)⟩
end Go.Proofs.YtmncihhofppkdaaDoor
