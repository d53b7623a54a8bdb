/- Each key comes of its link. -/
import Derived.Test.YtmncihhofppkdaaDoorRefLf
import Derived.Test.YtmncihhofppkdaaDoorLkBits
import Derived.Test.YtmncihhofppkdaaDoorAlive19
namespace Go.Proofs.YtmncihhofppkdaaDoor
open Go.RowKit
set_option linter.unusedVariables false
set_option linter.unusedSimpArgs false
set_option maxRecDepth 100000 in
set_option maxHeartbeats 4000000 in
theorem chainLinks_walk (s : List (BitVec 8)) (hs : s.length = 32) (a : Int) (ha0 : -9223372036854775808 ≤ a) (ha1 : a < 9223372036854775808) (w : World) (hT : Tab w) :
    Calls Tryd.prog 3 #[arrV b8 s, .int .i64 a] w fun e w' => e = .returned (.bool true) ∧ Below w.heap.size w w' := by
  have HS := Lib.hid hs
  obtain ⟨w1, hw1⟩ : ∃ w1, w1 = w.alloc (.cells (s.map b8).toArray 23) := ⟨_, rfl⟩
  have HA1 := Lib.hid (show Arr b8 w1 w.heap.size 23 s by rw [hw1]; exact Arr.new b8 w 23 s)
  have HB1 := Lib.hid (show Below w.heap.size w w1 by rw [hw1]; exact (Below.refl _ w).alloc (Nat.le_refl _) _)
  have hzl : w.heap.size < w1.heap.size := by rw [hw1]; simp
  have HT1 := Lib.hid (hT.below HB1.out)
  have HAl := Lib.hid (alive19_any w1 HT1.out)
  have HW1 := Lib.hid hw1
  rw [arrV_mk]
  clear hs hw1
  go_enter Tryd.func3, Tryd.ntmps3
  go_upto_region 1 with fail
  rw [← HW1.out]
  go_wp2_with fail
  refine HAl.out.mono ?_
  rintro e w2 ⟨rfl, hb2⟩
  have HB2 := Lib.hid hb2
  have hs2 := hb2.size
  clear hb2
  go_upto_region 4 with fail
  obtain ⟨i, hi8, hai⟩ := idx8 a
  rw [hai]
  clear hai ha0 ha1
  have HA2 := Lib.hid (HA1.out.below HB2.out HA1.out.lt)
  have HT2 := Lib.hid (HT1.out.below HB2.out)
  have hnw := newc_any w2 HT2.out s HS.out 3 (by decide)
  rw [arrV_mk, show ((2 ^ 3 : Nat) : Int) = 8 from rfl] at hnw
  have HNw := Lib.hid hnw
  have HBa := Lib.hid (HB1.out.trans (HB2.out.mono (by omega)))
  clear hnw
  go_wp2_with (first
    | (refine wpList_load_arr rfl 23 (.tmp 2) rfl w.heap.size rfl _ s HA2.out _ Tryd.underlying23 rfl (by rw [size32, HS.out]) ?_))
  refine HNw.out.mono ?_
  rintro e w3 ⟨gC, gl, gms, rfl, hgl, hc, hgC, hgl2, hgm, hb3⟩
  have HA3 := Lib.hid (HA2.out.below hb3 HA2.out.lt)
  have HB3 := Lib.hid (HBa.out.trans (hb3.mono (by omega)))
  have hs3 := hb3.size
  obtain ⟨z, hz⟩ : ∃ z, z = leafS 8 i s := ⟨_, rfl⟩
  have HZl := Lib.hid (show z.length = 32 by rw [hz]; exact downS_len _ _ _ _ HS.out)
  have hsl : (secs 3 s).length = gms.length := by rw [secs_len, hgl]
  have hml := mkL_len _ _ hsl
  rw [secs_len, show 2 ^ 3 = 8 from rfl] at hml
  obtain ⟨xs, hxs⟩ : ∃ xs, xs = mkL (secs 3 s) gms := ⟨_, rfl⟩
  have hmi : i < xs.length := by rw [hxs, hml]; exact hi8
  have hxi : xs[i].l = startL z := by
    rw [hz]; subst hxs
    exact mkL_get 3 i (by decide) hi8 s gms hgl hmi
  rw [← hxs] at hc hml
  have HC3 := Lib.hid hc
  have HXi := Lib.hid hxi
  have HMl := Lib.hid hml
  have hlf := refLeaf_any w3 s HS.out 8 i (by decide) (by omega)
  rw [arrV_mk, arrV_mk, ← hz, show ((8 : Nat) : Int) = 8 from rfl] at hlf
  have HLf := Lib.hid hlf
  clear hb3 hc hz hsl hml hxs hxi hlf hgl HNw hgm
  go_wp2_with (first
    | (refine wpList_load_arr rfl 23 (.tmp 2) rfl w.heap.size rfl _ s HA3.out _ Tryd.underlying23 rfl (by rw [size32, HS.out]) ?_))
  refine HLf.out.mono ?_
  rintro e w4 ⟨rfl, hb4⟩
  have HC4 := Lib.hid (HC3.out.below hb4)
  have HB4 := Lib.hid (HB3.out.trans (hb4.mono (by omega)))
  have hs4 := hb4.size
  have HT4 := Lib.hid (Arr.new b8 w4 23 (List.replicate 32 0#8))
  clear hb4 HLf
  go_upto_region 6 with (refine wpList_store_arr rfl 23 (.tmp 6) (.tmp 20) rfl w4.heap.size rfl z rfl _ _ HT4.out (by rw [HZl.out]; rfl) (by rw [size32, HZl.out]) b8_one' ?_; intro w5 hx5 hg5)
  have HK5 := Lib.hid (show Below w4.heap.size w4 w5 from ((Below.refl _ w4).alloc (Nat.le_refl _) _).grown hg5 (by simp) (fun k e => by cases e; exact Nat.le_refl _))
  have HC5 := Lib.hid (HC4.out.below HK5.out)
  have HX5 := Lib.hid hx5
  have HB5 := Lib.hid (HB4.out.trans (HK5.out.mono (by omega)))
  have hs5 := HK5.out.size
  have hC4 : gC < w4.heap.size := HC4.out.top.lt
  have hl4 : gl < w4.heap.size := HC4.out.lines.lt
  clear hx5 hg5 HT4 HA2 HA3 HC3 HC4 HB4 HB3
  go_wp2_with fail
  go_loopw [21] (fun v wr => ∃ (j : Nat) (ys : List LP) (h : i < ys.length), v = .int .i64 (j : Int) ∧ j ≤ 5 ∧ ys.length = 8 ∧ ys[i].l = lineJ z j ∧ ChAt wr gC gl ys ∧ Arr b8 wr w4.heap.size 23 (linkAt z j) ∧ Below w.heap.size w wr ∧ w4.heap.size < wr.heap.size) (fun v _ => 5 - (intOf v).toNat)
  case atStart => exact ⟨0, xs, hmi, rfl, by omega, HMl.out, by rw [HXi.out]; rfl, HC5.out, HX5.out, HB5.out, HX5.out.lt⟩
  case round =>
    clear HC5 HX5 HB5
    obtain ⟨j, ys, hyi, rfl, hj, hyl, hyj, hc, hx, hb, hlt4⟩ := hrel
    have HB := Lib.hid hb
    have HX := Lib.hid hx
    by_cases hlt : j < 5
    · have hE : takeE ys[i].l ys[i].l.place = 0 := by rw [hyj]; exact lineJ_takeE z j (by omega)
      have hn := next_ok wr gC gl ys hc i hyi (by omega) hE
      rw [hyj, show (lineJ z j).place = (j : Int) from rfl, lineJ_takeO z j (by omega), lineJ_takeL] at hn
      have HN := Lib.hid hn
      have HYl := Lib.hid hyl
      clear hn hE hyj hc hx hb hyl
      have lj : (j : Int) < 5 := by omega
      go_wp2_with fail
      refine HN.out.mono ?_
      rintro e w6 ⟨b, y, rfl, hA6, hyl6, hC6, -, hg6⟩
      have HB6 := Lib.hid (show Below w.heap.size w w6 from HB.out.grown hg6 HB.out.size (fun k e => by cases e; omega))
      have HX6 := Lib.hid (HX.out.grown hg6 (fun e => by injection e with e; omega))
      have HC6 := Lib.hid hC6
      have HA6 := Lib.hid hA6
      have HY6 := Lib.hid hyl6
      have hs6 := hg6.size
      have HKl := Lib.hid (ofL_key (linkAt z j) (j : Int))
      have HZ6 := Lib.hid (show Blk (w6.alloc (.cells zeroOnce.toArray 32)) w6.heap.size 32 zeroOnce from Blk.new _ _ _)
      clear hg6 hC6 hA6 hyl6 HN HB HX
      go_upto_region 10 with (refine wpList_store_piece rfl 32 (.tmp 8) (.tmp 28) rfl w6.heap.size 0 rfl (onceC (j : Int) (ofL (linkAt z j) (j : Int)).key (nonceS b)) rfl 32 _ [] zeroOnce [] HZ6.out (by simp) rfl (by rw [onceC_len _ _ _ HKl.out]; rfl) (by rw [sizeOnce, onceC_len _ _ _ HKl.out]) (onceC_one _ _ _ _ _) ?_; intro w7 hx7 hg7)
      have HK7 := Lib.hid (show Below w6.heap.size w6 w7 from ((Below.refl _ w6).alloc (Nat.le_refl _) _).grown hg7 (by simp) (fun k e => by cases e; exact Nat.le_refl _))
      have HO7 := Lib.hid (show Blk w7 w6.heap.size 32 (onceC (j : Int) (ofL (linkAt z j) (j : Int)).key (nonceS b)) from hx7.cast (by simp))
      have HC7 := Lib.hid (HC6.out.below HK7.out)
      have HX7 := Lib.hid (HX6.out.below HK7.out HX6.out.lt)
      have HA7 := Lib.hid (HA6.out.below HK7.out HA6.out.lt)
      have HB7 := Lib.hid (HB6.out.trans (HK7.out.mono (by omega)))
      clear hx7 hg7 HZ6
      obtain ⟨OC, hOC⟩ : ∃ OC, OC = onceC (j : Int) (ofL (linkAt z j) (j : Int)).key (nonceS b) := ⟨_, rfl⟩
      have HOCe := Lib.hid hOC
      have HOCl := Lib.hid (show OC.length = 34 by rw [hOC]; exact onceC_len _ _ _ HKl.out)
      have HLl := Lib.hid (linkAt_len z HZl.out j)
      rw [← hOC] at HO7
      obtain ⟨K, hK0⟩ : ∃ K, K = linkAt z j := ⟨_, rfl⟩
      have HKe := Lib.hid hK0
      have HKeep := Lib.hid (show ∀ W' : World, Blk W' w6.heap.size 32 OC → Arr b8 W' w4.heap.size 23 (linkAt z j) → W'.rangeAt w6.heap.size 0 OC ∧ W'.rangeAt w4.heap.size 0 ((linkAt z j).map b8) from fun W' h1 h2 => ⟨h1.whole, h2.whole⟩)
      have hk3 := HKeep.out _ HO7.out.drew HX7.out.drew
      have hu1 := Tryd.underlying32
      have hu2 := Tryd.underlying23
      have hi1 : (Tryd.prog.info? 32).map (·.size) = some OC.length := by rw [HOCl.out]; exact sizeOnce
      have hi2 : (Tryd.prog.info? 23).map (·.size) = some ((linkAt z j).map b8).length := by rw [List.length_map, HLl.out]; exact size32
      simp only [← hOC]
      clear hOC hK0
      refine wp_region_noPanic ?_
      refine wp_region_held_drew (S := fun w' => w'.rangeAt w6.heap.size 0 OC ∧ w'.rangeAt w4.heap.size 0 ((linkAt z j).map b8)) (by kernel_rfl) hk3 (fun hS => ?_)
      refine wpAnyH_take (i := 0) (oi := { dst := some 30, op := _, type := _, pos := _, after := _, guard := _ }) (v := .nilIface) rfl (by kernel_rfl) (by kernel_rfl) (by kernel_rfl) (fun _ _ _ h => h) (Or.inl ⟨by rfl, ?_⟩) hS ?_
      · intro w' hw'
        go_simp
      try simp only [Act.put, List.setIfInBounds_toArray, List.set_cons_zero, List.set_cons_succ]
      refine wpAnyH_take (i := 1) (oi := { dst := some 31, op := _, type := _, pos := _, after := _, guard := _ }) (v := .bool false) rfl (by kernel_rfl) (by kernel_rfl) (by kernel_rfl) (fun _ _ _ h => h) (Or.inl ⟨by rfl, ?_⟩) hS ?_
      · intro w' hw'
        go_simp
      try simp only [Act.put, List.setIfInBounds_toArray, List.set_cons_zero, List.set_cons_succ]
      refine wpAnyH_take (i := 2) (oi := { dst := some 32, op := _, type := _, pos := _, after := _, guard := _ }) (v := .bool false) rfl (by kernel_rfl) (by kernel_rfl) (by kernel_rfl) (fun _ _ _ h => h) (Or.inl ⟨by rfl, ?_⟩) hS ?_
      · intro w' hw'
        go_simp
      try simp only [Act.put, List.setIfInBounds_toArray, List.set_cons_zero, List.set_cons_succ]
      refine wpAnyH_take (i := 3) (oi := { dst := some 33, op := _, type := _, pos := _, after := _, guard := _ }) (v := .agg OC.toArray) rfl (by kernel_rfl) (by kernel_rfl) (by kernel_rfl) (fun _ _ _ h => h) (yieldsIf_load_mid (by rfl) 32 (.tmp 8) rfl w6.heap.size 0 rfl OC _ (fun _ h => h.1) hu1 rfl hi1) hS ?_
      try simp only [Act.put, List.setIfInBounds_toArray, List.set_cons_zero, List.set_cons_succ]
      refine wpAnyH_take (i := 4) (oi := { dst := some 34, op := _, type := _, pos := _, after := _, guard := _ }) (v := .agg ((linkAt z j).map b8).toArray) rfl (by kernel_rfl) (by kernel_rfl) (by kernel_rfl) (fun _ _ _ h => h) (yieldsIf_load_mid (by rfl) 23 (.tmp 6) rfl w4.heap.size 0 rfl ((linkAt z j).map b8) _ (fun _ h => h.2) hu2 rfl hi2) hS ?_
      try simp only [Act.put, List.setIfInBounds_toArray, List.set_cons_zero, List.set_cons_succ]
      refine wpAnyH_take (i := 5) (oi := { dst := some 35, op := _, type := _, pos := _, after := _, guard := _ }) (v := .int .i64 (j : Int)) rfl (by kernel_rfl) (by kernel_rfl) (by kernel_rfl) (fun _ _ _ h => h) (Or.inl ⟨by rfl, ?_⟩) hS ?_
      · intro w' hw'
        go_simp
      try simp only [Act.put, List.setIfInBounds_toArray, List.set_cons_zero, List.set_cons_succ]
      refine wpAnyH_ready (rs := [6]) (by kernel_rfl) (by simp) (AllReadyH.cons (o := { dst := some 36, op := _, type := _, pos := _, after := _, guard := _ }) rfl (fun K' hK => ?_) AllReadyH.nil)
      go_simp
      go_at_call 13
      refine (refOf_any _ (linkAt z j) HLl.out (j : Int)).mono ?_
      rintro e w8 ⟨A8, c8, rfl, hr8, hb8⟩
      have HK8 := Lib.hid (show Below w7.heap.size w7 w8 from ⟨hb8.os, hb8.tape, hb8.output, hb8.size, hb8.block⟩)
      have HO8 := Lib.hid (HO7.out.below HK8.out HO7.out.lt)
      have HX8 := Lib.hid (HX7.out.below HK8.out HX7.out.lt)
      have HA8 := Lib.hid (HA7.out.below HK8.out HA7.out.lt)
      have hs8 := HK8.out.size
      have h1 : Rd b8 w8 (b + 1) (some ⟨b, 32, none⟩) ((labV (linkAt z j) lKey 44).drop 32) := by
        have h := HA8.out.rd 32
        rw [ofL_keyE, ofL_nonceE, List.take_append_drop] at h
        exact h
      have hVl : (labV (linkAt z j) lKey 44).length = 44 := labV_len _ _ _ (by omega)
      have hsm := same19_any w8 (j : Int) ((labV (linkAt z j) lKey 44).take 32) ((labV (linkAt z j) lKey 44).drop 32) (by rw [List.length_take, hVl]; rfl) (by rw [List.length_drop, hVl]) (b + 1) w8.heap.size c8 b A8 h1 HA8.out.lt hr8 (Nat.le_refl _)
      have hoc : onceC (j : Int) ((labV (linkAt z j) lKey 44).take 32) (nonceS b) = OC := by rw [HOCe.out, ofL_keyE]
      rw [hoc] at hsm
      have HSm := Lib.hid hsm
      clear hsm hoc hVl h1 hr8 hb8
      refine hK.out _ _ (HKeep.out _ HO8.out HX8.out) (fun hS => ?_)
      clear hK K'
      try simp only [Act.put, List.setIfInBounds_toArray, List.set_cons_zero, List.set_cons_succ]
      refine wpAnyH_ready (rs := [7]) (by kernel_rfl) (by simp) (AllReadyH.cons (o := { dst := some 37, op := _, type := _, pos := _, after := _, guard := _ }) rfl (fun K' hK => ?_) AllReadyH.nil)
      go_simp
      go_at_call 12
      refine HSm.out.mono ?_
      rintro e w9 ⟨rfl, hb9⟩
      have HK9 := Lib.hid (HK8.out.trans (hb9.mono hs8))
      have HX9 := Lib.hid (HX8.out.below hb9 HX8.out.lt)
      have HO9 := Lib.hid (HO8.out.below hb9 HO8.out.lt)
      have hs9 := hb9.size
      clear hb9
      refine hK.out _ _ (HKeep.out _ HO9.out HX9.out) (fun hS => ?_)
      clear hK K'
      try simp only [Act.put, List.setIfInBounds_toArray, List.set_cons_zero, List.set_cons_succ]
      refine wpAnyH_take (i := 8) (oi := { dst := some 38, op := _, type := _, pos := _, after := _, guard := _ }) (v := .bool false) rfl (by kernel_rfl) (by kernel_rfl) (by kernel_rfl) (fun _ _ _ h => h) (Or.inl ⟨by rfl, ?_⟩) hS ?_
      · intro w' hw'
        go_simp
      try simp only [Act.put, List.setIfInBounds_toArray, List.set_cons_zero, List.set_cons_succ]
      refine wpAnyH_take (i := 9) (oi := { dst := some 39, op := _, type := _, pos := _, after := _, guard := _ }) (v := .bool false) rfl (by kernel_rfl) (by kernel_rfl) (by kernel_rfl) (fun _ _ _ h => h) (Or.inl ⟨by rfl, ?_⟩) hS ?_
      · intro w' hw'
        go_simp
      try simp only [Act.put, List.setIfInBounds_toArray, List.set_cons_zero, List.set_cons_succ]
      refine wpAnyH_done (by kernel_rfl) ?_ _
      refine NoPanic.normal ?_
      have hdv := refDerive_any w9 (linkAt z j) HLl.out ⟨#[110, 101, 120, 116]⟩ lNext strNext (by decide)
      rw [arrV_mk, arrV_mk] at hdv
      have HDv := Lib.hid hdv
      clear hdv
      have HB9 := Lib.hid (HB7.out.trans (HK9.out.mono (by have := HB7.out.size; omega)))
      have HC9 := Lib.hid (HC7.out.below HK9.out)
      go_wp2_with (first
        | (refine wpList_load_arr rfl 23 (.tmp 6) rfl w4.heap.size rfl _ (linkAt z j) HX9.out _ Tryd.underlying23 rfl (by rw [size32, HLl.out]) ?_))
      refine HDv.out.mono ?_
      rintro e wa ⟨rfl, hba⟩
      have HXa := Lib.hid (HX9.out.below hba HX9.out.lt)
      have HCa := Lib.hid (HC9.out.below hba)
      have HBa2 := Lib.hid (HB9.out.trans (hba.mono HB9.out.size))
      have hsa := hba.size
      clear hba
      go_wp2_with (refine wpList_store_arr rfl 23 (.tmp 6) (.tmp 41) rfl w4.heap.size rfl (derV (linkAt z j) lNext) rfl _ _ HXa.out (by rw [HLl.out, derV_len]) (by rw [size32, derV_len]) b8_one' ?_; intro wb hxb hgb)
      have HCb : ChAt wb gC gl (ys.set i y) := ⟨HCa.out.top.kept hgb (fun e => by injection e with e; omega), HCa.out.lines.grown hgb (fun e => by injection e with e; omega), HCa.out.ok, fun x hx => (HCa.out.held x hx).cells HXa.out (by decide) hgb, HCa.out.gms, HCa.out.blks⟩
      have HBb : Below w.heap.size w wb := HBa2.out.grown hgb HBa2.out.size (fun k e => by cases e; omega)
      refine ⟨⟨j + 1, ys.set i y, by rw [List.length_set]; exact hyi, by go_num, by omega, by rw [List.length_set]; exact HYl.out, by rw [List.getElem_set_self]; exact HY6.out, HCb, hxb, HBb, hxb.lt⟩, ?_⟩
      simp [intOf] <;> omega
    · obtain rfl : j = 5 := by omega
      have hHp : ys[i].hp.length = 0 := by
        have h1 := (hc.ok _ (List.getElem_mem hyi)).fst
        have h2 := congrArg List.length h1
        rw [List.length_map, hyj] at h2
        exact h2
      have hh := held_any wr gC gl ys hc i hyi (by omega)
      rw [hHp] at hh
      have HH := Lib.hid hh
      clear hh hHp hyj hc hx hb hyl
      rw [show (((5 : Nat)) : Int) = 5 from rfl]
      go_wp2_with fail
      refine HH.out.mono ?_
      rintro e w' ⟨rfl, rfl⟩
      go_wp2_with fail
      first
        | exact ⟨by simp, .bool true, by kernel_rfl, rfl, HB.out⟩
        | (go_ret; exact ⟨rfl, HB.out⟩)
        | (trace_state; sorry)
end Go.Proofs.YtmncihhofppkdaaDoor
