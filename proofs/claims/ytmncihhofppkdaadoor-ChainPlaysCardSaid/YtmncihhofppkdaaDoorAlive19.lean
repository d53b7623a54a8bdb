/- The chapter's example holds. -/
import Derived.Test.YtmncihhofppkdaaDoorNewG
namespace Go.Proofs.YtmncihhofppkdaaDoor
open Go.RowKit
set_option linter.unusedVariables false
set_option linter.unusedSimpArgs false

def exS : List (BitVec 8) := 1#8 :: List.replicate 31 0#8
theorem exS_len : exS.length = 32 := by simp [exS]
theorem built_exS : Tryd.prog.built 23 [(0, .int .u8 1)] = some (exS.map b8).toArray := by kernel_rfl
theorem start_take (z : List (BitVec 8)) : takeE (startL z) 2 = 0 := by
  unfold takeE hiM startL hiA
  simp
theorem start_held (z : List (BitVec 8)) (hz : z.length = 32) : (takeL (startL z) 2).held.length = 2 ∧ (takeL (startL z) 2).place = 3 := by
  have h := takeL_run (startL_ok z hz) (n := 2) (k := 2) rfl (start_take z)
  rw [h]
  refine ⟨?_, rfl⟩
  show (([] ++ runL z 0 2).filter (fun (o : OnceM) => !decide (o.no < 2 - 64))).length = 2
  rw [List.nil_append, List.filter_eq_self.2, runL_len]
  intro o ho
  obtain ⟨j, hj, rfl⟩ := (mem_runL _ _ _ _).1 ho
  rw [ofL_no]
  simp
theorem start_key (z : List (BitVec 8)) (hz : z.length = 32) : (takeO (startL z) 2).key.length = 32 := by
  have h : takeO (startL z) 2 = ofL (linkAt (startL z).link 2) 2 := takeO_run (n := 2) (k := 2) rfl (start_take z)
  rw [h]
  exact ofL_key _ _
set_option maxRecDepth 100000 in
set_option maxHeartbeats 4000000 in
theorem alive19_any (w : World) (hT : Tab w) : Calls Tryd.prog 8 #[] w fun e w' => e = .returned (.bool true) ∧ Below w.heap.size w w' := by
  have hn := newc_any w hT exS exS_len 1 (by decide)
  rw [arrV_mk, show ((2 ^ 1 : Nat) : Int) = 2 from rfl] at hn
  have HN := Lib.hid hn
  clear hn
  go_enter Tryd.func8, Tryd.ntmps8
  go_wp2_with (refine wpList_bparts rfl 23 [(0, .const (.int .u8 1))] rfl _ [(0, .int .u8 1)] rfl built_exS ?_)
  refine HN.out.mono ?_
  rintro e w1 ⟨gC, gl, gms, rfl, hgl, hc, hgC, hgl2, hgm, hb1⟩
  have hsl : (secs 1 exS).length = gms.length := by rw [secs_len, hgl]
  have hml := mkL_len _ _ hsl
  rw [secs_len] at hml
  obtain ⟨xs, hxs⟩ : ∃ xs, xs = mkL (secs 1 exS) gms := ⟨_, rfl⟩
  rw [← hxs] at hc hml
  have hi : 0 < xs.length := by rw [hml]; decide
  obtain ⟨z, hz, hz32⟩ : ∃ z, xs[0].l = startL z ∧ z.length = 32 := by
    have hm : xs[0] ∈ mkL (secs 1 exS) gms := by rw [← hxs]; exact List.getElem_mem hi
    obtain ⟨z, h1, g, h2, e⟩ := mkL_mem _ _ _ hm
    exact ⟨z, by rw [e], secs_32 1 exS exS_len z h1⟩
  have hE : takeE xs[0].l 2 = 0 := by rw [hz]; exact start_take z
  have ht := ctake_ok w1 gC gl xs hc 0 hi (by rw [hml]; decide) 2 hE
  have HTk := Lib.hid ht
  have HZ := Lib.hid hz
  have HB1 := Lib.hid hb1
  have HZl := Lib.hid (start_held z hz32)
  have HMl := Lib.hid hml
  have hz1 := hb1.size
  clear ht hz hb1 hgl hc hxs hsl hE hml HN
  have HKy := Lib.hid (show (takeO xs[0].l 2).key.length = 32 by rw [HZ.out]; exact start_key z hz32)
  clear hz32
  go_wp2_with fail
  refine HTk.out.mono ?_
  rintro e w2 ⟨b, y, rfl, -, hyl, hc', -, hg⟩
  obtain ⟨O, hO⟩ : ∃ O, O = takeO xs[0].l 2 := ⟨_, rfl⟩
  have hKl := HKy.out
  rw [← hO] at hKl ⊢
  clear hO
  have HB2 := Lib.hid (show Below w.heap.size w w2 from HB1.out.grown hg HB1.out.size (fun k e => by cases e; exact hgl2))
  have hz2 := HB2.out.size
  clear hg
  obtain ⟨ys, hys⟩ : ∃ ys, ys = xs.set 0 y := ⟨_, rfl⟩
  have hl2 : ys.length = 2 := by rw [hys, List.length_set]; exact HMl.out
  have h0 : 0 < ys.length := by omega
  have hy0 : ys[0] = y := by subst hys; simp
  rw [← hys] at hc'
  clear hys
  have hHp : y.hp.length = 2 := by
    have h1 := (hc'.ok _ (List.getElem_mem h0)).fst
    rw [hy0] at h1
    have h2 := congrArg List.length h1
    rw [List.length_map, hyl, HZ.out, HZl.out.1] at h2
    exact h2
  have hPl : y.l.place = 3 := by rw [hyl, HZ.out]; exact HZl.out.2
  have HZa := Lib.hid (show Blk (w2.alloc (.cells zeroOnce.toArray 32)) w2.heap.size 32 zeroOnce from Blk.new _ _ _)
  have HC' := Lib.hid hc'
  have HOl := Lib.hid (show zeroOnce.length = (onceC 2 O.key (nonceS b)).length by rw [onceC_len _ _ _ hKl]; rfl)
  clear hc' hyl
  go_upto_region 3 with (refine wpList_store_piece rfl 32 (.tmp 2) (.tmp 9) rfl w2.heap.size 0 rfl (onceC 2 O.key (nonceS b)) rfl 32 _ [] zeroOnce [] HZa.out (by simp) rfl HOl.out (by rw [← HOl.out]; exact sizeOnce) (onceC_one _ _ _ _ _) ?_; intro w4 hx4 hg4)
  have HK4 := Lib.hid (show Below w2.heap.size w2 w4 from ((Below.refl _ w2).alloc (Nat.le_refl _) _).grown hg4 (by simp) (fun k e => by cases e; exact Nat.le_refl _))
  have hX4 : Blk w4 w2.heap.size 32 (onceC 2 O.key (nonceS b)) := hx4.cast (by simp)
  have c0 := hX4.cell 0 (u := .int .i64 2) rfl
  have c33 := hX4.cell 33 (u := nonceS b) (by unfold onceC; rw [List.getElem?_cons_succ, List.getElem?_append_right (by rw [List.length_map]; omega), List.length_map, hKl]; rfl)
  have hC4 : ChAt w4 gC gl ys := HC'.out.below HK4.out
  have hm4 : ys.length ≤ 1000 := by omega
  have HH4 : Hid (Calls Tryd.prog 15 #[.pointer (some ⟨gC, 0, none⟩), .int .i64 0] w4 fun e w' => e = .returned (.int .i64 2) ∧ w4 = w') := Lib.hid (by
    have h := held_any w4 gC gl ys hC4 0 h0 hm4
    rw [hy0, hHp] at h
    exact h)
  have HP4 : Hid (Calls Tryd.prog 16 #[.pointer (some ⟨gC, 0, none⟩), .int .i64 0] w4 fun e w' => e = .returned (.int .i64 3) ∧ w4 = w') := Lib.hid (by
    have h := place_any w4 gC gl ys hC4 0 h0 hm4
    rw [hy0, hPl] at h
    exact h)
  have HQ4 := Lib.hid (place_bare w4 (.pointer (some ⟨gC, 0, none⟩)) 2 (line_out w4 gC gl ys hC4 2 (.inr (by omega))))
  have HB4 := Lib.hid (HB2.out.trans (HK4.out.mono (by omega)))
  unfold nonceS at c33
  clear hx4 hg4 hX4 hC4 hPl hHp hl2 hy0 h0 hm4 hKl hi HC' HZa HB2 HOl HKy HMl HZl HZ HTk HB1
  go_wp2_with fail
  refine HH4.out.mono ?_
  rintro e w' ⟨rfl, rfl⟩
  go_wp2_with fail
  refine HP4.out.mono ?_
  rintro e w' ⟨rfl, rfl⟩
  go_wp2_with fail
  refine HQ4.out.mono ?_
  rintro e w' ⟨rfl, rfl⟩
  go_wp2_with fail
  refine ⟨by simp, .bool true, by kernel_rfl, rfl, HB4.out⟩
end Go.Proofs.YtmncihhofppkdaaDoor
