/- CONTRACT: burrowlaw09.alive. -/
import Derived.Test.YtloglpamnalmeaaWireFn
namespace Go.Proofs.Ytloglpamnalmeaa
open Go.RowKit
set_option linter.unusedVariables false
set_option linter.unusedSimpArgs false

def zeroPk : List (BitVec 8) := pkBytes zero32 0 0 0 []
theorem zeroPk_len : zeroPk.length = 43 := pkBytes_len _ _ _ _ _ zero32_len
theorem zeroPk_good : goodPk zeroPk = true := good_put zero32 0 0 0 [] zero32_len (by omega) (by omega) (by omega) (by simp) (by decide)
theorem zeroPk_parse : parsePk zeroPk = ⟨zero32, 0, 0, 0, [], [], false⟩ := parse_put zero32 0 0 0 [] zero32_len (by omega) (by omega) (by omega) (by simp)
theorem zeroPk_cut : goodPk (zeroPk.drop 1) = false := by decide +kernel
theorem zeroPk_ok : pkBad 0 0 0 0 = false := by decide

set_option maxRecDepth 100000 in
set_option maxHeartbeats 4000000 in
theorem alive09_any (w : World) : Calls Try.prog 12 #[] w fun e w' => e = .returned (.bool true) ∧ Below w.heap.size w w' := by
  have hp := fun w => putPacket_any zero32 0 0 0 none 0 0 0 [] w zero32_len (by omega) (by omega) (by omega) (by omega) (by omega) (by omega) (Rd.nil_ _ _ _ _) (by omega) rfl (by omega)
  simp only [zeroPk_ok] at hp
  have HP := Lib.hid hp
  clear hp
  go_enter Try.func12, Try.ntmps12
  go_wp2_with fail
  refine (HP.out _).mono ?_
  rintro e w1 ⟨v1, rfl, ho1, hb1⟩
  rw [if_neg (by simp)] at ho1 ⊢
  rw [errV_zero]
  obtain ⟨g1, c1, rfl, -, hlt1, hc1⟩ := ho1.form' zeroPk_len (by omega)
  have hz1 := hb1.size
  have HB1 := Lib.hid hb1
  have hr1 : Rd b8 w1 w1.heap.size (some ⟨g1, 0, none⟩) zeroPk := ho1.rd
  have HR1 := Lib.hid hr1
  have hc1' : (c1 = 1) = False := by simp; omega
  have hc1n : (1 : Nat) ≤ 43 := by omega
  clear ho1 hb1 hr1 HP
  go_wp2_with fail
  refine (takePacket_any HR1.out (Nat.le_refl _) zeroPk_len hc1 (by omega)).mono ?_
  rintro e w2 ⟨hb2, ⟨hg, A2, c2, he, ho2⟩ | ⟨hg, -⟩⟩
  · obtain rfl : e = .returned (.tuple #[.agg (packetC zero32 0 0 0 A2 0 c2).toArray, .nilIface]) := by rw [he, zeroPk_parse]; rfl
    have HB2 := Lib.hid (HB1.out.trans (hb2.mono hz1))
    have hz2 : w1.heap.size ≤ w2.heap.size := hb2.size
    have hz2w : w.heap.size ≤ w2.heap.size := by omega
    have HPl := Lib.hid (packetC_len zero32 0 0 0 A2 0 c2 zero32_len)
    have HZ2 := Lib.hid (show Blk (w2.alloc (.cells (packetC zero32 0 0 0 none 0 0).toArray 26)) w2.heap.size 26 (packetC zero32 0 0 0 none 0 0) from Blk.new w2 _ _)
    have HR2 := Lib.hid (HR1.out.below (hb2.trans ((Below.refl _ _).alloc hz2 (.cells (packetC zero32 0 0 0 none 0 0).toArray 26))))
    have HB2a := Lib.hid (HB2.out.alloc hz2w (.cells (packetC zero32 0 0 0 none 0 0).toArray 26))
    clear hb2 ho2 hg he HR1 HB1
    go_wp2_with (refine wpList_store_blk rfl 26 _ _ rfl w2.heap.size rfl (packetC zero32 0 0 0 A2 0 c2) rfl _ _ HZ2.out (by rw [HPl.out]; rfl) (by rw [HPl.out]; exact infoPacket) (packetC_one _ _ _ _ _ _ _) ?_; intro w3 hp3 hg3; have HP3 := Lib.hid hp3; have HG3 := Lib.hid hg3; clear hp3 hg3)
    have hz3 : w2.heap.size + 1 ≤ w3.heap.size := by have := HG3.out.size; simpa using this
    have hr3 : Rd b8 w3 w1.heap.size (some ⟨g1, 0, none⟩) zeroPk := HR2.out.grown HG3.out (by simp; omega) (by rintro a ha e; cases ha; have := Option.some.inj e; simp at this; omega)
    have HR3 := Lib.hid (hr3.drop 1)
    have HB3 := Lib.hid (HB2a.out.grown HG3.out (by simp; omega) (fun k e => by cases e; exact hz2w))
    have HT3 := Lib.hid (takePacket_any (w := w3) (c := c1 - 1) (hr3.drop 1) (by omega) (n := 42) (by rw [List.length_drop, zeroPk_len]) (by omega) (by omega))
    clear hr3 HR2 HG3 HB2 HB2a HZ2
    refine HT3.out.mono ?_
    rintro e w4 ⟨hb4, ⟨hg, -⟩ | ⟨hg, rfl⟩⟩
    · rw [zeroPk_cut] at hg; cases hg
    have hz4 : w3.heap.size ≤ w4.heap.size := hb4.size
    have HB4 := Lib.hid (HB3.out.trans (hb4.mono (by omega)) : Below w.heap.size w w4)
    have hP4 : Blk w4 w2.heap.size 26 (packetC zero32 0 0 0 A2 0 c2) := HP3.out.below hb4 (by omega)
    have HP4 := Lib.hid (hP4.alloc (.cells (packetC zero32 0 0 0 none 0 0).toArray 26))
    have HZ4 := Lib.hid (show Blk (w4.alloc (.cells (packetC zero32 0 0 0 none 0 0).toArray 26)) w4.heap.size 26 (packetC zero32 0 0 0 none 0 0) from Blk.new w4 _ _)
    have HB4a := Lib.hid (HB4.out.alloc (by omega) (.cells (packetC zero32 0 0 0 none 0 0).toArray 26))
    have hl24 : w2.heap.size < w4.heap.size := by omega
    clear hb4 hg hP4 HT3 HP3 HR3 HB3 HB4
    go_wp2_with (refine wpList_store_blk rfl 26 _ _ rfl w4.heap.size rfl (packetC zero32 0 0 0 none 0 0) rfl _ _ HZ4.out rfl (by rw [packetC_len _ _ _ _ _ _ _ zero32_len]; exact infoPacket) (packetC_one _ _ _ _ _ _ _) ?_; intro w5 hp5 hg5; have HG5 := Lib.hid hg5; have hP5 : PkBox w5 w2.heap.size zero32 0 0 0 A2 0 c2 := Blk.grown HP4.out hg5 (by intro e; have := Option.some.inj e; omega); have c32 := hP5.c32 zero32_len; clear hp5 hg5 hP5)
    have hi := is_any 3 3 w5
    rw [errV_pos (by simp)] at hi
    refine hi.mono ?_
    rintro e w' ⟨rfl, rfl⟩
    rw [beq_self_eq_true]
    clear hi
    go_wp2_with fail
    go_ret
    exact ⟨rfl, HB4a.out.grown HG5.out (by simp; omega) (fun k e => by cases e; omega)⟩
  · rw [zeroPk_good] at hg; cases hg
end Go.Proofs.Ytloglpamnalmeaa
