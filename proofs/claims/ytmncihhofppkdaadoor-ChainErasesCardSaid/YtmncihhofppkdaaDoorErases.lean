/- ChainErases, the walk: what was asked for can't be looked at any more. -/
import Derived.Test.YtmncihhofppkdaaDoorLookC
import Derived.Test.YtmncihhofppkdaaDoorLkBits
import Derived.Test.YtmncihhofppkdaaDoorAlive19
namespace Go.Proofs.YtmncihhofppkdaaDoor
open Go.RowKit
set_option linter.unusedVariables false
set_option linter.unusedSimpArgs false
theorem idx200 (a : Int) : ∃ i : Nat, i < 200 ∧ wrap64 ((IntKind.u64.wrap a).tmod 200) = (i : Int) := by
  have e : IntKind.u64.wrap a = a % 18446744073709551616 := rfl
  rw [e]
  have h0 : 0 ≤ a % 18446744073709551616 := Int.emod_nonneg _ (by decide)
  rw [Int.tmod_eq_emod_of_nonneg h0]
  generalize a % 18446744073709551616 = b at h0
  refine ⟨(b % 200).toNat, by omega, ?_⟩
  unfold wrap64
  omega
theorem mkL_at (ls : List (List (BitVec 8))) (gms : List Nat) (i : Nat) (h : i < (mkL ls gms).length) : (mkL ls gms)[i].l.place = 0 ∧ (mkL ls gms)[i].hp = [] := by
  have h1 : (mkL ls gms)[i]? = some (mkL ls gms)[i] := List.getElem?_eq_getElem h
  unfold mkL at h1
  rw [List.getElem?_zipWith] at h1
  revert h1
  cases ls[i]? <;> cases gms[i]? <;> intro h1
  · cases h1
  · cases h1
  · cases h1
  · have h2 := Option.some.inj h1
    refine ⟨?_, ?_⟩
    · show (LP.l _).place = 0
      exact (congrArg (fun x : LP => x.l.place) h2).symm
    · exact (congrArg LP.hp h2).symm
theorem onceC_rng (w : World) (g : Nat) (T : TypeId) (n : Int) (key : List (BitVec 8)) (v : Value) (hk : key.length = 32) (b : Blk w g T (onceC n key v)) : w.rangeAt g 1 (key.map b8) := by
  have h := b.range 1 32
  rwa [show ((onceC n key v).drop 1).take 32 = key.map b8 by unfold onceC; rw [List.drop_succ_cons, List.drop_zero, List.take_left' (by rw [List.length_map, hk])]] at h
theorem key_eq (key : List (BitVec 8)) (hk : key.length = 32) (w : World) : (Op.equalIn 10000 29 (.agg (key.map b8).toArray) (.agg (key.map b8).toArray)).run Tryd.prog w = .ok true w := by
  rw [map_b8_cell, run_equalIn_bytes w 9998 29 5 32 Tryd.underlying29 Tryd.underlying5 (fun _ => by kernel_rfl) (key.map u8) (key.map u8) (by simpa using hk) (by simpa using hk), u8_beq, beq_self_eq_true]
set_option maxRecDepth 100000 in
set_option maxHeartbeats 8000000 in
theorem chainErases_walk (s : List (BitVec 8)) (hs : s.length = 32) (A : Option Addr) (n c : Nat) (xs : List Int) (w : World) (hr : Rd (Value.int .i64) w w.heap.size A xs) (hn : xs.length = n) (hT : Tab w) :
    Calls Tryd.prog 4 #[arrV b8 s, .slice A n c] w fun e w' => e = .returned (.bool true) ∧ Below w.heap.size w w' := by
  have HS := Lib.hid hs
  have HR := Lib.hid hr
  have HN := Lib.hid hn
  obtain ⟨w1, hw1⟩ : ∃ w1, w1 = w.alloc (.cells (s.map b8).toArray 23) := ⟨_, rfl⟩
  have HA1 := Lib.hid (show Arr b8 w1 w.heap.size 23 s by rw [hw1]; exact Arr.new b8 w 23 s)
  have HB1 := Lib.hid (show Below w.heap.size w w1 by rw [hw1]; exact (Below.refl _ w).alloc (Nat.le_refl _) _)
  have hzl : w.heap.size < w1.heap.size := by rw [hw1]; simp
  have HT1 := Lib.hid (hT.below HB1.out)
  have HAl := Lib.hid (alive19_any w1 HT1.out)
  have HW1 := Lib.hid hw1
  rw [arrV_mk]
  clear hs hw1 hr hn hT
  by_cases hbig : 30 < n
  · have hb' : (n : Int) > 30 := by omega
    clear hbig
    go_enter Tryd.func4, Tryd.ntmps4
    go_upto_region 1 with fail
    rw [← HW1.out]
    go_wp2_with fail
    refine HAl.out.mono ?_
    rintro e w2 ⟨rfl, hb2⟩
    have HB2 := Lib.hid hb2
    have hs2 := hb2.size
    clear hb2
    go_wp2_with fail
    go_ret
    exact ⟨rfl, HB1.out.trans (HB2.out.mono (by omega))⟩
  have hb' : ¬ ((n : Int) > 30) := by omega
  go_enter Tryd.func4, Tryd.ntmps4
  go_upto_region 1 with fail
  rw [← HW1.out]
  go_wp2_with fail
  refine HAl.out.mono ?_
  rintro e w2 ⟨rfl, hb2⟩
  have HA2 := Lib.hid (HA1.out.below hb2 HA1.out.lt)
  have HT2 := Lib.hid (HT1.out.below hb2)
  have HBa := Lib.hid (HB1.out.trans (hb2.mono (by omega)))
  have hs2 := hb2.size
  have hnw := newc_any w2 HT2.out s HS.out 1 (by decide)
  rw [arrV_mk, show ((2 ^ 1 : Nat) : Int) = 2 from rfl] at hnw
  have HNw := Lib.hid hnw
  clear hb2 hnw
  go_wp2_with (refine wpList_load_arr rfl 23 (.tmp 2) rfl w.heap.size rfl _ s HA2.out _ Tryd.underlying23 rfl (by rw [size32, HS.out]) ?_)
  refine HNw.out.mono ?_
  rintro e w3 ⟨gC, gl, gms, rfl, hgl, hc, hgC, hgl2, hgm, hb3⟩
  have HB3 := Lib.hid (HBa.out.trans (hb3.mono (by omega)))
  have hs3 := hb3.size
  have hsl : (secs 1 s).length = gms.length := by rw [secs_len, hgl]
  have hml := mkL_len _ _ hsl
  rw [secs_len, show 2 ^ 1 = 2 from rfl] at hml
  obtain ⟨ys0, hys0⟩ : ∃ ys, ys = mkL (secs 1 s) gms := ⟨_, rfl⟩
  have hm0 : 0 < ys0.length := by rw [hys0]; omega
  have hat : ys0[0].l.place = 0 ∧ ys0[0].hp = [] := by subst hys0; exact mkL_at (secs 1 s) gms 0 hm0
  rw [← hys0] at hc hml
  obtain ⟨x0, hx0⟩ : ∃ x0, x0 = ys0[0] := ⟨_, rfl⟩
  have HXp := Lib.hid (show x0.l.place = 0 by rw [hx0]; exact hat.1)
  have HXh := Lib.hid (show x0.hp = [] by rw [hx0]; exact hat.2)
  have HX0 := Lib.hid hx0
  have HC3 := Lib.hid hc
  have HMl := Lib.hid hml
  clear hb3 hc hsl hml hat hx0 hys0 hgl HNw hgm HBa HA2 HT2 HT1 HA1
  go_wp2_with fail
  go_loopw [25] (fun v wr => ∃ (j : Nat) (ys : List LP) (h0 : 0 < ys.length), v = .int .i64 (j : Int) ∧ j ≤ n ∧ ys.length = 2 ∧ ys[0] = x0 ∧ ChAt wr gC gl ys ∧ Below w.heap.size w wr) (fun v _ => n - (intOf v).toNat)
  case atStart => exact ⟨0, ys0, hm0, rfl, by omega, HMl.out, HX0.out.symm, HC3.out, HB3.out⟩
  case round =>
    clear HC3 HB3
    obtain ⟨j, ys, hy0, rfl, hj, hyl, hye, hc, hb⟩ := hrel
    have HB := Lib.hid hb
    have HC := Lib.hid hc
    have HYl := Lib.hid hyl
    have HYe := Lib.hid hye
    have hsw := hb.size
    by_cases hlt : j < n
    · have hjl : j < xs.length := by rw [HN.out]; exact hlt
      obtain ⟨b0, o0, rfl, hB0, hc0⟩ := (HR.out.below HB.out).at_ hjl
      generalize xs[j] = x at hc0
      have lj : (j : Int) < (n : Int) := by omega
      clear hye hc hb hyl
      go_upto_region 10 with fail
      obtain ⟨m, hm, hmx⟩ := idx200 x
      rw [hmx]
      clear hmx hc0
      have hy1 : 1 < ys.length := by rw [HYl.out]; decide
      have hyb : ys.length ≤ 1000 := by rw [HYl.out]; decide
      have hP := place_any wr gC gl ys HC.out 1 hy1 hyb
      have hH := held_any wr gC gl ys HC.out 1 hy1 hyb
      rw [show ((1 : Nat) : Int) = 1 from rfl] at hP hH
      have HP := Lib.hid hP
      have HH := Lib.hid hH
      have HP2 := Lib.hid (fun w2 (hb2 : Below wr.heap.size wr w2) => place_any w2 gC gl ys (HC.out.below hb2) 1 hy1 hyb)
      have HH2 := Lib.hid (fun w2 (hb2 : Below wr.heap.size wr w2) => held_any w2 gC gl ys (HC.out.below hb2) 1 hy1 hyb)
      generalize hplace : ys[1].l.place = P at HP HP2
      generalize hheld : ys[1].hp.length = H at HH HH2
      clear hP hH hplace hheld
      by_cases hE : takeE ys[1].l (m : Int) = 0
      · have HE := Lib.hid hE
        have HLk := Lib.hid (look_ok wr gC gl ys HC.out 1 hy1 hyb (m : Int) hE)
        obtain ⟨hKl, -⟩ := takeO_lens (HC.out.ok _ (List.getElem_mem hy1)).lok hE
        have HTk := Lib.hid (fun w2 (hb2 : Below wr.heap.size wr w2) => ctake_ok w2 gC gl ys (HC.out.below hb2) 1 hy1 hyb (m : Int) HE.out)
        obtain ⟨L, hL⟩ : ∃ L, L = takeL ys[1].l (m : Int) := ⟨_, rfl⟩
        have HLe := Lib.hid (show takeE L (m : Int) ≠ 0 by
          have h := takeE_again ys[1].l (m : Int)
          unfold takeN at h
          rw [if_pos hE] at h
          rw [hL]; exact h)
        rw [← hL] at HTk
        obtain ⟨O, hO⟩ : ∃ O, O = takeO ys[1].l (m : Int) := ⟨_, rfl⟩
        rw [← hO] at hKl HLk HTk
        rw [show ((1 : Nat) : Int) = 1 from rfl] at HLk
        have HKl := Lib.hid hKl
        clear hE hKl hL hO
        go_wp2_with fail
        refine HP.out.mono ?_
        rintro e w4 ⟨rfl, rfl⟩
        go_wp2_with fail
        refine HH.out.mono ?_
        rintro e w4 ⟨rfl, rfl⟩
        go_wp2_with fail
        refine HLk.out.mono ?_
        rintro e w4 ⟨g, cg, rfl, hg, -, hb4⟩
        have HB4 := Lib.hid hb4
        have hz4 := hb4.size
        clear hb4
        have HZ5 := Lib.hid (show Blk (w4.alloc (.cells zeroOnce.toArray 32)) w4.heap.size 32 zeroOnce from Blk.new _ _ _)
        go_upto_region 12 with (refine wpList_store_piece rfl 32 (.tmp 10) (.tmp 41) rfl w4.heap.size 0 rfl (onceC (m : Int) O.key (.slice (some ⟨g, 0, none⟩) 12 cg)) rfl 32 _ [] zeroOnce [] HZ5.out (by simp) rfl (by rw [onceC_len _ _ _ HKl.out]; rfl) (by rw [onceC_len _ _ _ HKl.out];exact sizeOnce) (onceC_one _ _ _ _ _) ?_; intro w5 hx5 hg5)
        have HK5 := Lib.hid (show Below w4.heap.size w4 w5 from ((Below.refl _ w4).alloc (Nat.le_refl _) _).grown hg5 (by simp) (fun k e => by cases e; exact Nat.le_refl _))
        have HX5 := Lib.hid (show Blk w5 w4.heap.size 32 (onceC (m : Int) O.key (.slice (some ⟨g, 0, none⟩) 12 cg)) from hx5.cast (by simp))
        have hz5 : w4.heap.size + 1 ≤ w5.heap.size := by have := hg5.size; simpa using this
        clear hx5 hg5 HZ5
        have HB5 := Lib.hid (HB4.out.trans (HK5.out.mono (by omega)))
        have hz5 := HK5.out.size
        have hP5 := HP2.out w5 HB5.out
        have hH5 := HH2.out w5 HB5.out
        rw [show ((1 : Nat) : Int) = 1 from rfl] at hP5 hH5
        have HP5 := Lib.hid hP5
        have HH5 := Lib.hid hH5
        clear hP5 hH5
        go_wp2_with fail
        refine HP5.out.mono ?_
        rintro e w6 ⟨rfl, rfl⟩
        go_wp2_with fail
        refine HH5.out.mono ?_
        rintro e w6 ⟨rfl, rfl⟩
        have hT5 := HTk.out w5 HB5.out
        rw [show ((1 : Nat) : Int) = 1 from rfl] at hT5
        have HT5 := Lib.hid hT5
        clear hT5
        go_wp2_with fail
        refine HT5.out.mono ?_
        rintro e w6 ⟨b, y, rfl, hA6, hyl6, hC6, -, hg6⟩
        have hgl5 : gl < wr.heap.size := HC.out.lines.lt
        have HX6 := Lib.hid (HX5.out.grown hg6 (fun e => by injection e with e; omega))
        have HB6 := Lib.hid (show Below w.heap.size w w6 from (HB.out.trans (HB5.out.mono (by omega))).grown hg6 (by omega) (fun k e => by cases e; omega))
        have HC6 := Lib.hid hC6
        have HY6 := Lib.hid hyl6
        have hz6 := hg6.size
        clear hA6 hC6 hyl6 hg6
        have HZ7 := Lib.hid (show Blk (w6.alloc (.cells zeroOnce.toArray 32)) w6.heap.size 32 zeroOnce from Blk.new _ _ _)
        go_upto_region 15 with (refine wpList_store_piece rfl 32 (.tmp 12) (.tmp 57) rfl w6.heap.size 0 rfl (onceC (m : Int) O.key (nonceS b)) rfl 32 _ [] zeroOnce [] HZ7.out (by simp) rfl (by rw [onceC_len _ _ _ HKl.out]; rfl) (by rw [onceC_len _ _ _ HKl.out];exact sizeOnce) (onceC_one _ _ _ _ _) ?_; intro w7 hx7 hg7)
        have HK7 := Lib.hid (show Below w6.heap.size w6 w7 from ((Below.refl _ w6).alloc (Nat.le_refl _) _).grown hg7 (by simp) (fun k e => by cases e; exact Nat.le_refl _))
        have HX7 := Lib.hid (show Blk w7 w6.heap.size 32 (onceC (m : Int) O.key (nonceS b)) from hx7.cast (by simp))
        have hz7 : w6.heap.size + 1 ≤ w7.heap.size := by have := hg7.size; simpa using this
        clear hx7 hg7 HZ7
        have hNum := fun w => num_any 0 w
        rw [errV_zero] at hNum
        have HNum := Lib.hid hNum
        clear hNum
        have hB7 := HB6.out.trans (HK7.out.mono (by omega))
        have HB7 := Lib.hid hB7
        have HC7 := Lib.hid (HC6.out.below HK7.out)
        have HR1 := Lib.hid (onceC_rng w7 _ _ _ O.key _ HKl.out (HX6.out.below HK7.out (by omega)))
        have HR2 := Lib.hid (onceC_rng w7 _ _ _ O.key _ HKl.out HX7.out)
        have heq := key_eq O.key HKl.out
        have hi32 : (Tryd.prog.info? 29).map (·.size) = some (O.key.map b8).length := by rw [List.length_map, HKl.out]; exact sizeKey
        have HI := Lib.hid hi32
        clear hi32 hB7
        go_wp2_with fail
        refine (HNum.out _).mono ?_
        rintro e w' ⟨rfl, rfl⟩
        go_wp2_with fail
        refine (HNum.out _).mono ?_
        rintro e w' ⟨rfl, rfl⟩
        have hLb := look_bad w7 gC gl (ys.set 1 y) HC7.out 1 (by rw [List.length_set]; exact hy1) (by rw [List.length_set]; exact hyb) (m : Int) (by rw [List.getElem_set_self, HY6.out]; exact HLe.out)
        rw [show ((1 : Nat) : Int) = 1 from rfl] at hLb
        have hy1' : 1 < (ys.set 1 y).length := by rw [List.length_set]; exact hy1
        obtain ⟨E, hE⟩ : ∃ E, E = takeE (ys.set 1 y)[1].l (m : Int) := ⟨_, rfl⟩
        rw [← hE, errV_pos (by rw [hE, List.getElem_set_self, HY6.out]; exact HLe.out)] at hLb
        clear hE
        have HLb := Lib.hid hLb
        clear hLb
        go_wp2_with (first
          | (refine wpList_load_midw (by first | rfl | go_simp) 29 (.tmp 65) rfl w4.heap.size 1 rfl (O.key.map b8) _ HR1.out Tryd.underlying29 rfl HI.out ?_)
          | (refine wpList_load_midw (by first | rfl | go_simp) 29 (.tmp 67) rfl w6.heap.size 1 rfl (O.key.map b8) _ HR2.out Tryd.underlying29 rfl HI.out ?_))
        clear heq
        refine HLb.out.mono ?_
        rintro e w8 ⟨rfl, hb8⟩
        have HB8 := Lib.hid (HB7.out.trans (hb8.mono (by omega)))
        have HC8 := Lib.hid (HC7.out.below hb8)
        have hz8 := hb8.size
        clear hb8
        have HZ9 := Lib.hid (show Blk (w8.alloc (.cells zeroOnce.toArray 32)) w8.heap.size 32 zeroOnce from Blk.new _ _ _)
        go_upto_region 18 with (refine wpList_store_piece rfl 32 (.tmp 14) (.tmp 75) rfl w8.heap.size 0 rfl (zeroOnce) rfl 32 _ [] zeroOnce [] HZ9.out (by simp) rfl (by rfl) (by exact sizeOnce) (onceC_one _ _ _ _ _) ?_; intro w9 hx9 hg9)
        have HK9 := Lib.hid (show Below w8.heap.size w8 w9 from ((Below.refl _ w8).alloc (Nat.le_refl _) _).grown hg9 (by simp) (fun k e => by cases e; exact Nat.le_refl _))
        have HX9 := Lib.hid (show Blk w9 w8.heap.size 32 (zeroOnce) from hx9.cast (by simp))
        have hz9 : w8.heap.size + 1 ≤ w9.heap.size := by have := hg9.size; simpa using this
        clear hx9 hg9 HZ9
        have HB9 := Lib.hid (HB8.out.trans (HK9.out.mono (by omega)))
        have HC9 := Lib.hid (HC8.out.below HK9.out)
        clear HX9 HX7 HX6 HX5 HR1 HR2
        go_wp2_with fail
        refine ⟨⟨j + 1, ys.set 1 y, by rw [List.length_set]; exact hy0, by go_num, by omega, by rw [List.length_set]; exact HYl.out, by rw [List.getElem_set_ne (by decide)]; exact HYe.out, HC9.out, HB9.out⟩, ?_⟩
        simp [intOf] <;> omega
      · have HE := Lib.hid hE
        obtain ⟨E, hEe⟩ : ∃ E, takeE ys[1].l (m : Int) = E := ⟨_, rfl⟩
        have hE0 : E ≠ 0 := by rw [← hEe]; exact hE
        have HEe := Lib.hid hEe
        have hLk := look_bad wr gC gl ys HC.out 1 hy1 hyb (m : Int) hE
        rw [hEe, errV_pos hE0, show ((1 : Nat) : Int) = 1 from rfl] at hLk
        have HLk := Lib.hid hLk
        have HTk := Lib.hid (fun w2 (hb2 : Below wr.heap.size wr w2) => ctake_bad w2 gC gl ys (HC.out.below hb2) 1 hy1 hyb (m : Int) HE.out)
        rw [hEe, errV_pos hE0, show ((1 : Nat) : Int) = 1 from rfl] at HTk
        have hNum := fun w => num_any E w
        rw [errV_pos hE0] at hNum
        have HNum := Lib.hid hNum
        obtain ⟨Z, hZ⟩ : ∃ Z : List (BitVec 8), Z = List.replicate 32 0#8 := ⟨_, rfl⟩
        have HZl := Lib.hid (show Z.length = 32 by rw [hZ]; exact List.length_replicate)
        have HZe := Lib.hid (show zeroOnce = onceC 0 Z (.slice none 0 0) by rw [hZ]; rfl)
        clear hE hEe hE0 hLk hNum hZ
        go_wp2_with fail
        refine HP.out.mono ?_
        rintro e w4 ⟨rfl, rfl⟩
        go_wp2_with fail
        refine HH.out.mono ?_
        rintro e w4 ⟨rfl, rfl⟩
        go_wp2_with fail
        refine HLk.out.mono ?_
        rintro e w4 ⟨rfl, hb4⟩
        have HB4 := Lib.hid hb4
        have hz4 := hb4.size
        clear hb4
        have HZ5 := Lib.hid (show Blk (w4.alloc (.cells zeroOnce.toArray 32)) w4.heap.size 32 zeroOnce from Blk.new _ _ _)
        go_upto_region 12 with (refine wpList_store_piece rfl 32 (.tmp 10) (.tmp 41) rfl w4.heap.size 0 rfl (zeroOnce) rfl 32 _ [] zeroOnce [] HZ5.out (by simp) rfl (by rfl) (by exact sizeOnce) (onceC_one _ _ _ _ _) ?_; intro w5 hx5 hg5)
        have HK5 := Lib.hid (show Below w4.heap.size w4 w5 from ((Below.refl _ w4).alloc (Nat.le_refl _) _).grown hg5 (by simp) (fun k e => by cases e; exact Nat.le_refl _))
        have HX5 := Lib.hid (show Blk w5 w4.heap.size 32 (zeroOnce) from hx5.cast (by simp))
        have hz5 : w4.heap.size + 1 ≤ w5.heap.size := by have := hg5.size; simpa using this
        clear hx5 hg5 HZ5
        have HB5 := Lib.hid (HB4.out.trans (HK5.out.mono (by omega)))
        have hz5 := HK5.out.size
        have hP5 := HP2.out w5 HB5.out
        have hH5 := HH2.out w5 HB5.out
        rw [show ((1 : Nat) : Int) = 1 from rfl] at hP5 hH5
        have HP5 := Lib.hid hP5
        have HH5 := Lib.hid hH5
        clear hP5 hH5
        go_wp2_with fail
        refine HP5.out.mono ?_
        rintro e w6 ⟨rfl, rfl⟩
        go_wp2_with fail
        refine HH5.out.mono ?_
        rintro e w6 ⟨rfl, rfl⟩
        have HT5 := Lib.hid (HTk.out w5 HB5.out)
        go_wp2_with fail
        refine HT5.out.mono ?_
        rintro e w6 ⟨rfl, hb6⟩
        have HX6 := Lib.hid (HX5.out.below hb6 (by omega))
        have HB6 := Lib.hid (show Below w.heap.size w w6 from (HB.out.trans (HB5.out.mono (by omega))).trans (hb6.mono (by omega)))
        have HC6 := Lib.hid ((HC.out.below HB5.out).below hb6)
        have hz6 := hb6.size
        clear hb6
        have HZ7 := Lib.hid (show Blk (w6.alloc (.cells zeroOnce.toArray 32)) w6.heap.size 32 zeroOnce from Blk.new _ _ _)
        go_upto_region 15 with (refine wpList_store_piece rfl 32 (.tmp 12) (.tmp 57) rfl w6.heap.size 0 rfl (zeroOnce) rfl 32 _ [] zeroOnce [] HZ7.out (by simp) rfl (by rfl) (by exact sizeOnce) (onceC_one _ _ _ _ _) ?_; intro w7 hx7 hg7)
        have HK7 := Lib.hid (show Below w6.heap.size w6 w7 from ((Below.refl _ w6).alloc (Nat.le_refl _) _).grown hg7 (by simp) (fun k e => by cases e; exact Nat.le_refl _))
        have HX7 := Lib.hid (show Blk w7 w6.heap.size 32 (zeroOnce) from hx7.cast (by simp))
        have hz7 : w6.heap.size + 1 ≤ w7.heap.size := by have := hg7.size; simpa using this
        clear hx7 hg7 HZ7
        have hB7 := HB6.out.trans (HK7.out.mono (by omega))
        have HB7 := Lib.hid hB7
        have HC7 := Lib.hid (HC6.out.below HK7.out)
        have HR1 := Lib.hid (onceC_rng w7 _ _ _ Z _ HZl.out ((HX6.out.below HK7.out (by omega)).cast HZe.out))
        have HR2 := Lib.hid (onceC_rng w7 _ _ _ Z _ HZl.out (HX7.out.cast HZe.out))
        have heq := key_eq Z HZl.out
        have hi32 : (Tryd.prog.info? 29).map (·.size) = some (Z.map b8).length := by rw [List.length_map, HZl.out]; exact sizeKey
        have HI := Lib.hid hi32
        clear hi32 hB7
        go_wp2_with fail
        refine (HNum.out _).mono ?_
        rintro e w' ⟨rfl, rfl⟩
        go_wp2_with fail
        refine (HNum.out _).mono ?_
        rintro e w' ⟨rfl, rfl⟩
        have hLb := look_bad w7 gC gl ys HC7.out 1 hy1 hyb (m : Int) HE.out
        rw [show ((1 : Nat) : Int) = 1 from rfl] at hLb
        rw [HEe.out, errV_pos (by rw [← HEe.out]; exact HE.out)] at hLb
        have HLb := Lib.hid hLb
        clear hLb
        go_wp2_with (first
          | (refine wpList_load_midw (by first | rfl | go_simp) 29 (.tmp 65) rfl w4.heap.size 1 rfl (Z.map b8) _ HR1.out Tryd.underlying29 rfl HI.out ?_)
          | (refine wpList_load_midw (by first | rfl | go_simp) 29 (.tmp 67) rfl w6.heap.size 1 rfl (Z.map b8) _ HR2.out Tryd.underlying29 rfl HI.out ?_))
        clear heq
        refine HLb.out.mono ?_
        rintro e w8 ⟨rfl, hb8⟩
        have HB8 := Lib.hid (HB7.out.trans (hb8.mono (by omega)))
        have HC8 := Lib.hid (HC7.out.below hb8)
        have hz8 := hb8.size
        clear hb8
        have HZ9 := Lib.hid (show Blk (w8.alloc (.cells zeroOnce.toArray 32)) w8.heap.size 32 zeroOnce from Blk.new _ _ _)
        go_upto_region 18 with (refine wpList_store_piece rfl 32 (.tmp 14) (.tmp 75) rfl w8.heap.size 0 rfl (zeroOnce) rfl 32 _ [] zeroOnce [] HZ9.out (by simp) rfl (by rfl) (by exact sizeOnce) (onceC_one _ _ _ _ _) ?_; intro w9 hx9 hg9)
        have HK9 := Lib.hid (show Below w8.heap.size w8 w9 from ((Below.refl _ w8).alloc (Nat.le_refl _) _).grown hg9 (by simp) (fun k e => by cases e; exact Nat.le_refl _))
        have HX9 := Lib.hid (show Blk w9 w8.heap.size 32 (zeroOnce) from hx9.cast (by simp))
        have hz9 : w8.heap.size + 1 ≤ w9.heap.size := by have := hg9.size; simpa using this
        clear hx9 hg9 HZ9
        have HB9 := Lib.hid (HB8.out.trans (HK9.out.mono (by omega)))
        have HC9 := Lib.hid (HC8.out.below HK9.out)
        clear HX9 HX7 HX6 HX5 HR1 HR2
        go_wp2_with fail
        refine ⟨⟨j + 1, ys, hy0, by go_num, by omega, HYl.out, HYe.out, HC9.out, HB9.out⟩, ?_⟩
        simp [intOf] <;> omega
    · obtain rfl : j = n := by omega
      have hP := place_any wr gC gl ys HC.out 0 hy0 (by rw [HYl.out]; decide)
      have hH := held_any wr gC gl ys HC.out 0 hy0 (by rw [HYl.out]; decide)
      rw [show ((0 : Nat) : Int) = 0 from rfl, HYe.out, HXp.out] at hP
      rw [show ((0 : Nat) : Int) = 0 from rfl, HYe.out, HXh.out, show ((([] : List (OnceM × Nat)).length : Nat) : Int) = 0 from rfl] at hH
      have HP := Lib.hid hP
      have HH := Lib.hid hH
      clear hP hH hc hb hyl hye
      go_wp2_with fail
      refine HP.out.mono ?_
      rintro e w' ⟨rfl, rfl⟩
      go_wp2_with fail
      refine HH.out.mono ?_
      rintro e w' ⟨rfl, rfl⟩
      go_wp2_with fail
      exact ⟨by simp, .bool true, by kernel_rfl, rfl, HB.out⟩
end Go.Proofs.YtmncihhofppkdaaDoor
