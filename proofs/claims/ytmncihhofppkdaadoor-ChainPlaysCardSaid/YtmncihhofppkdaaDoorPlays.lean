/- ChainPlays, the walk: what any chains come to, by any script. -/
import Derived.Test.YtmncihhofppkdaaDoorPlayB
import Derived.Test.YtmncihhofppkdaaDoorAlive19
import Derived.Test.YtmncihhofppkdaaDoorRefLf
import Derived.Deep.CutBlock
namespace Go.Proofs.YtmncihhofppkdaaDoor
open Go.RowKit
set_option linter.unusedVariables false
set_option linter.unusedSimpArgs false
set_option maxRecDepth 100000 in
set_option maxHeartbeats 16000000 in
theorem chainPlays_walk (s : List (BitVec 8)) (hs : s.length = 32) (a : Int) (ha0 : -9223372036854775808 ≤ a) (ha1 : a < 9223372036854775808) (A : Option Addr) (n c : Nat) (ops : List Op19) (w : World) (hr : RdV w w.heap.size A (ops.flatMap Op19.cells)) (hok : ∀ x ∈ ops, x.Ok) (hn : ops.length = n) (hT : Tab w) :
    Calls Tryd.prog 6 #[arrV b8 s, .int .i64 a, .slice A n c] w fun e w' => e = .returned (.bool true) ∧ Below w.heap.size w w' := by
  have HS := Lib.hid hs
  have HR := Lib.hid hr
  have HN := Lib.hid hn
  have HOk := Lib.hid hok
  obtain ⟨w1, hw1⟩ : ∃ w1, w1 = w.alloc (.cells (s.map b8).toArray 23) := ⟨_, rfl⟩
  have HA1 := Lib.hid (show Arr b8 w1 w.heap.size 23 s by rw [hw1]; exact Arr.new b8 w 23 s)
  have HB1 := Lib.hid (show Below w.heap.size w w1 by rw [hw1]; exact (Below.refl _ w).alloc (Nat.le_refl _) _)
  have hzl : w.heap.size < w1.heap.size := by rw [hw1]; simp
  have HT1 := Lib.hid (hT.below HB1.out)
  have HAl := Lib.hid (alive19_any w1 HT1.out)
  have HW1 := Lib.hid hw1
  rw [arrV_mk]
  clear hs hw1 hr hn hT hok
  by_cases hbig : 30 < n
  · have hb' : (n : Int) > 30 := by omega
    clear hbig
    go_enter Tryd.func6, Tryd.ntmps6
    go_upto_region 1 with fail
    rw [← HW1.out]
    go_wp2_with fail
    refine HAl.out.mono ?_
    rintro e w2 ⟨rfl, hb2⟩
    have HB2 := Lib.hid hb2
    have hs2 := hb2.size
    clear hb2
    go_wp2_with fail
    go_ret
    exact ⟨rfl, HB1.out.trans (HB2.out.mono (by omega))⟩
  have hb' : ¬ ((n : Int) > 30) := by omega
  go_enter Tryd.func6, Tryd.ntmps6
  go_upto_region 1 with fail
  rw [← HW1.out]
  go_wp2_with fail
  refine HAl.out.mono ?_
  rintro e w2 ⟨rfl, hb2⟩
  have HA2 := Lib.hid (HA1.out.below hb2 HA1.out.lt)
  have HT2 := Lib.hid (HT1.out.below hb2)
  have HBa := Lib.hid (HB1.out.trans (hb2.mono (by omega)))
  have hs2 := hb2.size
  have hnw := new_all w2 HT2.out s HS.out a ha0 ha1
  rw [arrV_mk] at hnw
  have HNw := Lib.hid hnw
  clear hb2 hnw
  go_wp2_with (refine wpList_load_arr rfl 23 (.tmp 3) rfl w.heap.size rfl _ s HA2.out _ Tryd.underlying23 rfl (by rw [size32, HS.out]) ?_)
  refine HNw.out.mono ?_
  rintro e w3 ⟨gC, gl, xs, rfl, hcx, hxl, hxi, hxh, hxg, hC0, hC1, hl0, hl1, hN32, hb3⟩
  have HA3 := Lib.hid (HA2.out.below hb3 HA2.out.lt)
  have HB3 := Lib.hid (HBa.out.trans (hb3.mono (by omega)))
  have hs3 := hb3.size
  have HCx := Lib.hid hcx
  have HXl := Lib.hid hxl
  have HXi := Lib.hid hxi
  have HXh := Lib.hid hxh
  have HXg := Lib.hid hxg
  clear hb3 hcx hxl hxi hxh hxg HNw HBa HA2 HT2 HT1 HA1
  obtain ⟨N, hN⟩ : ∃ N, N = linesN a := ⟨_, rfl⟩
  rw [← hN] at HXl HXi hN32
  have HNe := Lib.hid hN
  have haN : soundB a = true → a = (N : Int) := fun h => by
    rw [hN]; unfold linesN; rw [if_pos h]
    obtain ⟨k, -, rfl⟩ := sound_two h
    rw [Int.toNat_natCast]
  have hbN : soundB a = false → N = 0 := fun h => by rw [hN]; unfold linesN; rw [h]; rfl
  have HaN := Lib.hid haN
  have HbN := Lib.hid hbN
  obtain ⟨il, hil, hlz, hls, hlb⟩ := info_parts infoRLine
  obtain ⟨B0, hB0⟩ : ∃ B0, B0 = w3.heap.size := ⟨_, rfl⟩
  have hB0a : B0 ≤ w3.heap.size := by omega
  have hB0b : w3.heap.size ≤ B0 := by omega
  have HOw0 := Lib.hid (show (w3.alloc (.cells #[] 56)).ownsRow B0 56 36 (.slice (some ⟨w3.heap.size, 0, none⟩) 0 0) 0 [] from by
    have h := World.ownsRow_lit (base := B0) (e := 56) (size := 36) w3 #[] 0 hB0a (by decide) (by simp)
    simpa using h)
  have hal3 : Below w3.heap.size w3 (w3.alloc (.cells #[] 56)) := (Below.refl _ w3).alloc (Nat.le_refl _) _
  have HCx4 := Lib.hid (HCx.out.below hal3)
  have HA4 := Lib.hid (HA3.out.below hal3 HA3.out.lt)
  have HB4 := Lib.hid (HB3.out.trans (hal3.mono (by omega)))
  have hz4 : B0 ≤ (w3.alloc (.cells #[] 56)).heap.size := by simp; omega
  clear hN haN hbN hB0 hal3 HCx HA3 HB3
  go_wp2_with fail
  go_loopw [8, 9] (fun lv iv wr => ∃ (j : Nat), iv = .int .i64 (j : Int) ∧ j ≤ N ∧ wr.ownsRow B0 56 36 lv j (((List.range j).map (fun i => startRL (leafS N i s))).flatMap RL.cells) ∧ (∃ g cap, lv = .slice (some ⟨g, 0, none⟩) j cap) ∧ ChX wr gC gl xs ∧ Arr b8 wr w.heap.size 23 s ∧ Below w.heap.size w wr ∧ B0 ≤ wr.heap.size) (fun _ iv _ => N - (intOf iv).toNat)
  case atStart => exact ⟨0, rfl, by omega, HOw0.out, ⟨_, _, rfl⟩, HCx4.out, HA4.out, HB4.out, hz4⟩
  case round =>
    clear HOw0 HCx4 HA4 HB4 hz4
    obtain ⟨j, rfl, hj, hown, ⟨g, cap, rfl⟩, hcx, hA, hb, hzB⟩ := hrel
    have HOw := Lib.hid hown
    have HCx := Lib.hid hcx
    have HA := Lib.hid hA
    have HB := Lib.hid hb
    have hwz := hb.size
    clear hown hcx hA hb
    by_cases hlt : j < N
    · cases hsd : soundB a with
      | false => have := HbN.out hsd; omega
      | true =>
        have hja : (j : Int) < a := by have := HaN.out hsd; omega
        have hso := refSound_any a wr
        rw [hsd] at hso
        have HSo := Lib.hid hso
        have hlf := refLeaf_any wr s HS.out N j hN32 (by omega)
        rw [arrV_mk, arrV_mk, ← HaN.out hsd] at hlf
        obtain ⟨z, hz⟩ : ∃ z, z = leafS N j s := ⟨_, rfl⟩
        rw [← hz] at hlf
        have HLf := Lib.hid hlf
        have HZl := Lib.hid (show z.length = 32 by rw [hz]; exact downS_len _ _ _ _ HS.out)
        have HZe := Lib.hid hz
        clear hso hlf hz hsd
        go_wp2_with (first
          | (refine wpList_load_arr rfl 23 (.tmp 3) rfl w.heap.size rfl _ s HA.out _ Tryd.underlying23 rfl (by rw [size32, HS.out]) ?_)
          | (go_at_call 21; refine HSo.out.mono ?_; rintro e w' ⟨rfl, rfl⟩))
        refine HLf.out.mono ?_
        rintro e w5 ⟨rfl, hb5⟩
        have HCl := Lib.hid (show (startRL z).cells.length = 36 from lineR_len HZl.out)
        have HOw5 := Lib.hid (rowS_below (rowS_below HOw.out hb5 (Nat.le_refl _)) ((Below.refl w5.heap.size w5).alloc (Nat.le_refl _) (.cells (startRL z).cells.toArray 56)) (Nat.le_refl _))
        have HB5 := Lib.hid hb5
        have hz5 := hb5.size
        have hj32 : j < 32 := by omega
        clear hb5 HLf
        go_upto_region 11 with (first
          | (refine wpList_bparts rfl 56 [(0, .tmp 49)] rfl (startRL z).cells.toArray [(0, .agg (z.map b8).toArray)] rfl (built_startRL z HZl.out) ?_)
          | (refine wpList_box_slice rfl 52 56 (.tmp 50) rfl il (.agg (lineR (List.replicate 32 0#8) 0 (.slice none 0 0) (.slice none 0 0) 0).toArray) 36 (startRL z).cells.toArray rfl (by simpa using HCl.out) (by decide) (by decide) Tryd.underlying52 hil hlz hls rfl ?_)
          | (at_builtin; refine wpList_append_row rfl _ _ 52 rfl 36 (by decide) B0 56 il (.agg (lineR (List.replicate 32 0#8) 0 (.slice none 0 0) (.slice none 0 0) 0).toArray) 96 Tryd.underlying52 hil hlz hls hlb rfl _ _ _ rfl HOw5.out (w5.heap.size + 1) (some ⟨w5.heap.size, 0, none⟩) 1 1 (startRL z).cells rfl (by rw [HCl.out]) (by decide) (rdV_new w5 56 (startRL z).cells) (lineR_one rfl rfl) (by unfold maxLen; omega) (by omega) (by simp; omega) ?_; intro v6 w6 hown6 hg6 hbb6))
        have hbk6 : Below B0 wr w6 := hbb6 B0 wr (Nat.le_refl _) ((HB5.out.mono hzB).alloc (by omega) _)
        have hbt6 : Below w.heap.size w w6 := hbb6 w.heap.size w (by omega) ((HB.out.trans (HB5.out.mono hwz)).alloc (by omega) _)
        have hown7 : w6.ownsRow B0 56 36 v6 (j + 1) (((List.range (j + 1)).map (fun i => startRL (leafS N i s))).flatMap RL.cells) := by
          rw [List.range_succ, List.map_append, List.flatMap_append, List.map_singleton, List.flatMap_singleton, ← HZe.out]
          exact hown6
        obtain ⟨g6, cap6, cur6, hv6, -⟩ : ∃ g6 cap6, ∃ cur6 : Nat, v6 = .slice (some ⟨g6, 0, none⟩) (j + 1) cap6 ∧ cur6 = 0 := by
          rcases hown6.2 with ⟨-, h0⟩ | ⟨g', cap', cur', e, -⟩
          · omega
          · exact ⟨g', cap', 0, e, rfl⟩
        subst hv6
        have HOw7 := Lib.hid hown7
        have HCx7 := Lib.hid (show ChX w6 gC gl xs from by
          have h5 := (HCx.out.below HB5.out).below ((Below.refl w5.heap.size w5).alloc (Nat.le_refl _) (.cells (startRL z).cells.toArray 56))
          exact chX_grew h5 hg6 HOw5.out)
        have HA7 := Lib.hid (HA.out.below hbk6 (by omega))
        have HB7 := Lib.hid hbt6
        have hz7 : B0 ≤ w6.heap.size := Nat.le_trans hzB hbk6.size
        clear hown6 hown7 hg6 hbb6 hbk6 hbt6 HOw5 HB5 HOw HCx HA HB
        go_wp2_with fail
        go_roundw
        case rel => exact ⟨j + 1, by go_num, by omega, HOw7.out, ⟨_, _, rfl⟩, HCx7.out, HA7.out, HB7.out, hz7⟩
        case measure => simp [intOf] <;> omega
    · obtain rfl : N = j := by omega
      go_upto_region 10 with fail
      go_cut [42] from 36 to 52 (fun v wx => v = .bool false ∧ wx = wr)
      case first =>
        cases hsd : soundB a with
        | true =>
          have hja : ¬ ((N : Int) < a) := by have := HaN.out hsd; omega
          go_wp2_with fail
          go_meet
          case rel => exact ⟨rfl, rfl⟩
        | false =>
          have hso := refSound_any a wr
          rw [hsd] at hso
          have HSo := Lib.hid hso
          have hN0 := HbN.out hsd
          clear hso hsd
          by_cases hja : (N : Int) < a
          · clear hN0
            go_wp2_with (go_at_call 21; refine HSo.out.mono ?_; rintro e w' ⟨rfl, rfl⟩)
            go_meet
            case rel => exact ⟨rfl, rfl⟩
          · clear hN0
            go_wp2_with fail
            go_meet
            case rel => exact ⟨rfl, rfl⟩
      case rest =>
        obtain ⟨rfl, rfl⟩ := hcut
        obtain ⟨spare, hbk, hgB⟩ := row_blk HOw.out
        obtain ⟨ls0, hls0⟩ : ∃ ls0, ls0 = (List.range N).map (fun i => startRL (leafS N i s)) := ⟨_, rfl⟩
        rw [← hls0] at hbk
        obtain ⟨top, htop⟩ : ∃ top, top = wc.heap.size := ⟨_, rfl⟩
        have hl0l : ls0.length = N := by rw [hls0]; simp
        have hg0 : ∀ (i : Nat) (h : i < ls0.length), ls0[i] = startRL (leafS N i s) := fun i h => by subst hls0; simp
        have hlm : ∀ x ∈ ls0, ∃ i, x = startRL (leafS N i s) := fun x hx => by
          rw [hls0] at hx
          obtain ⟨i, -, e⟩ := List.mem_map.1 hx
          exact ⟨i, e.symm⟩
        have HP0 := Lib.hid (show PlayAt wc w.heap.size top gC gl g spare xs ls0 from
          ⟨HCx.out, by rw [hl0l, HXl.out], by rw [HXl.out]; exact hN32, hbk, fun i h1 h2 => by rw [hg0 i h2, HXi.out i h1]; rfl,
            fun x hx => by obtain ⟨i, rfl⟩ := hlm x hx; exact startRL_at wc _ (downS_len _ _ _ _ HS.out), fun x hx => by have := HXg.out x hx; omega,
            (fun x hx o ho => by obtain ⟨i, rfl⟩ := hlm x hx; cases ho), (fun x hx b off e => by obtain ⟨i, rfl⟩ := hlm x hx; cases e), (fun x hx b off e => by obtain ⟨i, rfl⟩ := hlm x hx; cases e), (fun x hx z hz => by rw [HXh.out x hx] at hz; cases hz)⟩)
        have has0 : ∀ x ∈ ls0, x.l.asked.length ≤ 0 := fun x hx => by obtain ⟨i, rfl⟩ := hlm x hx; exact Nat.le_refl _
        have HAs0 := Lib.hid has0
        have htop0 : top ≤ wc.heap.size := by omega
        have hgt : g < top := by have := hbk.lt; omega
        have hglt : gl < top := by omega
        have hwg : w.heap.size ≤ g := by omega
        have hwgl : w.heap.size ≤ gl := by omega
        have hwgC : w.heap.size ≤ gC := by omega
        have HB9 := Lib.hid HB.out
        clear hbk hls0 htop hl0l hg0 hlm has0 HOw HCx HA HB
        go_wp2_with fail
        go_loopw [55] (fun v wr => ∃ (j : Nat) (ys : List LP) (ls : List RL), v = .int .i64 (j : Int) ∧ j ≤ n ∧ ys.length = N ∧ (∀ x ∈ ls, x.l.asked.length ≤ j) ∧ PlayAt wr w.heap.size top gC gl g spare ys ls ∧ Below w.heap.size w wr ∧ top ≤ wr.heap.size) (fun v _ => n - (intOf v).toNat)
        case atStart => exact ⟨0, xs, ls0, rfl, by omega, HXl.out, HAs0.out, HP0.out, HB9.out, htop0⟩
        case round =>
          clear HP0 HAs0 HB9 htop0
          obtain ⟨j, ys, ls, rfl, hj, hyl, has, hp, hb, htz⟩ := hrel
          have HYl := Lib.hid hyl
          have HAs := Lib.hid has
          have HP := Lib.hid hp
          have HB := Lib.hid hb
          have hsw := hb.size
          by_cases hlt : j < n
          · obtain ⟨op, hop⟩ : ∃ op, ops[j]? = some op := ⟨ops[j]'(by rw [HN.out]; exact hlt), List.getElem?_eq_getElem _⟩
            have hopk := HOk.out op (List.mem_of_getElem? hop)
            obtain ⟨b0, o0, hAe, hb0, hrg⟩ := RdV.elem (K := 3) (Rd.below HR.out hb) (fun x _ => rfl) (by decide) hop
            rw [Nat.mul_comm] at hrg
            subst hAe
            have HRg := Lib.hid hrg
            have lj : (j : Int) < (n : Int) := by omega
            obtain ⟨hi0, hi1, hn0, hn1⟩ := hopk
            have HZo := Lib.hid (show Blk (wr.alloc (.cells zeroOp.toArray 58)) wr.heap.size 58 zeroOp from Blk.new _ _ _)
            clear hyl has hp hb hop hrg
            go_upto_region 16 with (first
              | (refine wpList_load_mid rfl 58 (.tmp 57) rfl b0 (o0 + j * 3) rfl op.cells _ HRg.out Tryd.underlying58 rfl op_size ?_)
              | (refine wpList_store_piece rfl 58 (.tmp 11) (.tmp 58) rfl wr.heap.size 0 rfl op.cells rfl 58 _ [] zeroOp [] HZo.out (by simp) rfl rfl op_size (fun u hu => by unfold Op19.cells at hu; simp only [List.mem_cons, List.not_mem_nil, or_false] at hu; rcases hu with rfl | rfl | rfl <;> rfl) ?_; intro w5 hx5 hg5))
            have HK5 := Lib.hid (show Below wr.heap.size wr w5 from ((Below.refl _ wr).alloc (Nat.le_refl _) _).grown hg5 (by simp) (fun k e => by cases e; exact Nat.le_refl _))
            have HX5 := Lib.hid (show Blk w5 wr.heap.size 58 op.cells from hx5.cast (by simp))
            have hz5 : wr.heap.size + 1 ≤ w5.heap.size := by have := hg5.size; simpa using this
            obtain ⟨gO, hgO⟩ : ∃ gO, gO = wr.heap.size := ⟨_, rfl⟩
            rw [← hgO] at HX5 ⊢
            have hgO1 : gO < w5.heap.size := by omega
            have hgO2 : wr.heap.size ≤ gO := by omega
            have HP5 := Lib.hid (HP.out.below HK5.out)
            have HB5 := Lib.hid (HB.out.trans (HK5.out.mono hsw))
            have c0 := HX5.out.cell 0 (u := .int .i64 op.kd) rfl
            have c1 := HX5.out.cell 1 (u := .int .i64 op.i) rfl
            have c2 := HX5.out.cell 2 (u := .int .i64 op.n) rfl
            obtain ⟨I, hI⟩ : ∃ I, I = op.i := ⟨_, rfl⟩
            obtain ⟨M, hM⟩ : ∃ M, M = op.n := ⟨_, rfl⟩
            obtain ⟨kd, hkd⟩ : ∃ kd, kd = op.kd := ⟨_, rfl⟩
            rw [← hI] at c1 hi0 hi1
            rw [← hM] at c2 hn0 hn1
            rw [← hkd] at c0
            have HIe := Lib.hid hI
            have HMe := Lib.hid hM
            have HKe := Lib.hid hkd
            clear hx5 hg5 HZo hgO hI hM hkd
            have HKz := Lib.hid HK5.out.size
            try simp only [Act.put]
            go_cut [55, 68] from 55 to 251 (fun v55 v68 wx => v55 = .int .i64 (j : Int) ∧ v68 = .bool (decide (I < 0 ∨ (N : Int) ≤ I)) ∧ wx = w5)
            case first =>
              by_cases h1 : I < 0
              · go_wp2_with fail
                go_meet
                case rel => exact ⟨rfl, by rw [show decide (I < 0 ∨ (N : Int) ≤ I) = true from decide_eq_true (.inl h1)], rfl⟩
              · by_cases h2 : I ≥ (N : Int)
                · go_wp2_with fail
                  go_meet
                  case rel => exact ⟨rfl, by rw [show decide (I < 0 ∨ (N : Int) ≤ I) = true from decide_eq_true (.inr h2)], rfl⟩
                · go_wp2_with fail
                  go_meet
                  case rel => exact ⟨rfl, by rw [show decide (I < 0 ∨ (N : Int) ≤ I) = false from decide_eq_false (by omega)], rfl⟩
            case rest =>
              obtain ⟨rfl, rfl, rfl⟩ := hcut
              by_cases hout : I < 0 ∨ (N : Int) ≤ I
              · rw [show decide (I < 0 ∨ (N : Int) ≤ I) = true from decide_eq_true hout]
                as_aux_lemma =>
                  have HLn := Lib.hid (show ∀ W, Below wc.heap.size wc W → Calls Tryd.prog 31 #[.pointer (some ⟨gC, 0, none⟩), .int .i64 I] W fun e w' => e = .returned (.pointer none) ∧ W = w' from fun W hb => (HP5.out.ch.below hb).none_ I (by rw [HYl.out]; exact hout))
                  have HIs := Lib.hid (show ∀ w : World, Calls Tryd.prog 22 #[errV 9, .int .i64 9] w fun e w' => e = .returned (.bool true) ∧ w = w' from fun w => is_any 9 9 w)
                  have HC1 := Lib.hid (next_bare wc (.pointer (some ⟨gC, 0, none⟩)) I (fun W hb => HLn.out W hb))
                  go_wp2_with fail
                  refine HC1.out.mono ?_
                  rintro e w6 ⟨rfl, hb6⟩
                  have HQ6 := Lib.hid hb6
                  have hz6 := hb6.size
                  clear hb6
                  have HZ7 := Lib.hid (show Blk (w6.alloc (.cells zeroOnce.toArray 32)) w6.heap.size 32 zeroOnce from Blk.new _ _ _)
                  go_upto_region 18 with (refine wpList_store_piece rfl 32 (.tmp 12) (.tmp 74) rfl w6.heap.size 0 rfl (zeroOnce) rfl 32 _ [] zeroOnce [] HZ7.out (by simp) rfl (by rfl) (by exact sizeOnce) (onceC_one _ _ _ _ _) ?_; intro w7 hx7 hg7)
                  have HK7 := Lib.hid (show Below w6.heap.size w6 w7 from ((Below.refl _ w6).alloc (Nat.le_refl _) _).grown hg7 (by simp) (fun k e => by cases e; exact Nat.le_refl _))
                  have HX7 := Lib.hid (show Blk w7 w6.heap.size 32 (zeroOnce) from hx7.cast (by simp))
                  have hz7 : w6.heap.size + 1 ≤ w7.heap.size := by have := hg7.size; simpa using this
                  clear hx7 hg7 HZ7
                  have HQ7 := Lib.hid (HQ6.out.trans (HK7.out.mono (by omega)))
                  have HXo7 := Lib.hid (HX5.out.below HQ7.out hgO1)
                  have c1 := HXo7.out.cell 1 (u := .int .i64 I) (by rw [HIe.out]; rfl)
                  have c2 := HXo7.out.cell 2 (u := .int .i64 M) (by rw [HMe.out]; rfl)
                  have HC2 := Lib.hid (take_bare w7 (.pointer (some ⟨gC, 0, none⟩)) I M (fun W hb => HLn.out W (HQ7.out.trans (hb.mono HQ7.out.size))))
                  go_wp2_with fail
                  refine HC2.out.mono ?_
                  rintro e w8 ⟨rfl, hb8⟩
                  have HQ8 := Lib.hid (HQ7.out.trans (hb8.mono HQ7.out.size))
                  have hz8 := hb8.size
                  clear hb8
                  have HZ9 := Lib.hid (show Blk (w8.alloc (.cells zeroOnce.toArray 32)) w8.heap.size 32 zeroOnce from Blk.new _ _ _)
                  go_upto_region 19 with (refine wpList_store_piece rfl 32 (.tmp 14) (.tmp 83) rfl w8.heap.size 0 rfl (zeroOnce) rfl 32 _ [] zeroOnce [] HZ9.out (by simp) rfl (by rfl) (by exact sizeOnce) (onceC_one _ _ _ _ _) ?_; intro w9 hx9 hg9)
                  have HK9 := Lib.hid (show Below w8.heap.size w8 w9 from ((Below.refl _ w8).alloc (Nat.le_refl _) _).grown hg9 (by simp) (fun k e => by cases e; exact Nat.le_refl _))
                  have HX9 := Lib.hid (show Blk w9 w8.heap.size 32 (zeroOnce) from hx9.cast (by simp))
                  have hz9 : w8.heap.size + 1 ≤ w9.heap.size := by have := hg9.size; simpa using this
                  clear hx9 hg9 HZ9
                  have HQ9 := Lib.hid (HQ8.out.trans (HK9.out.mono (by omega)))
                  have HXo9 := Lib.hid (HX5.out.below HQ9.out hgO1)
                  have c1 := HXo9.out.cell 1 (u := .int .i64 I) (by rw [HIe.out]; rfl)
                  have c2 := HXo9.out.cell 2 (u := .int .i64 M) (by rw [HMe.out]; rfl)
                  have HC3 := Lib.hid (look_bare w9 (.pointer (some ⟨gC, 0, none⟩)) I M (fun W hb => HLn.out W (HQ9.out.trans (hb.mono HQ9.out.size))))
                  go_wp2_with fail
                  refine HC3.out.mono ?_
                  rintro e w10 ⟨rfl, hb10⟩
                  have HQ10 := Lib.hid (HQ9.out.trans (hb10.mono HQ9.out.size))
                  have hz10 := hb10.size
                  clear hb10
                  have HZ11 := Lib.hid (show Blk (w10.alloc (.cells zeroOnce.toArray 32)) w10.heap.size 32 zeroOnce from Blk.new _ _ _)
                  go_upto_region 20 with (refine wpList_store_piece rfl 32 (.tmp 16) (.tmp 92) rfl w10.heap.size 0 rfl (zeroOnce) rfl 32 _ [] zeroOnce [] HZ11.out (by simp) rfl (by rfl) (by exact sizeOnce) (onceC_one _ _ _ _ _) ?_; intro w11 hx11 hg11)
                  have HK11 := Lib.hid (show Below w10.heap.size w10 w11 from ((Below.refl _ w10).alloc (Nat.le_refl _) _).grown hg11 (by simp) (fun k e => by cases e; exact Nat.le_refl _))
                  have HX11 := Lib.hid (show Blk w11 w10.heap.size 32 (zeroOnce) from hx11.cast (by simp))
                  have hz11 : w10.heap.size + 1 ≤ w11.heap.size := by have := hg11.size; simpa using this
                  clear hx11 hg11 HZ11
                  have HQ11 := Lib.hid (HQ10.out.trans (HK11.out.mono (by omega)))
                  have HXo11 := Lib.hid (HX5.out.below HQ11.out hgO1)
                  have c1 := HXo11.out.cell 1 (u := .int .i64 I) (by rw [HIe.out]; rfl)
                  have c2 := HXo11.out.cell 2 (u := .int .i64 M) (by rw [HMe.out]; rfl)
                  have HPb := Lib.hid (place_bare w11 (.pointer (some ⟨gC, 0, none⟩)) I (HLn.out w11 HQ11.out))
                  have HHb := Lib.hid (held_bare w11 (.pointer (some ⟨gC, 0, none⟩)) I (HLn.out w11 HQ11.out))
                  have HJb := Lib.hid (jump_bare w11 (.pointer (some ⟨gC, 0, none⟩)) I M (HLn.out w11 HQ11.out))
                  clear HXo7 HXo9 HX7 HX9 HX11
                  go_wp2_with fail
                  refine (HIs.out _).mono ?_
                  rintro e w' ⟨rfl, rfl⟩
                  go_wp2_with fail
                  refine (HIs.out _).mono ?_
                  rintro e w' ⟨rfl, rfl⟩
                  go_wp2_with fail
                  refine (HIs.out _).mono ?_
                  rintro e w' ⟨rfl, rfl⟩
                  go_wp2_with fail
                  refine HPb.out.mono ?_
                  rintro e w' ⟨rfl, rfl⟩
                  go_wp2_with fail
                  refine HHb.out.mono ?_
                  rintro e w' ⟨rfl, rfl⟩
                  go_wp2_with fail
                  refine HJb.out.mono ?_
                  rintro e w' ⟨rfl, rfl⟩
                  go_wp2_with fail
                  refine ⟨⟨j + 1, ys, ls, by go_num, by omega, HYl.out, fun x hx => by have := HAs.out x hx; omega, HP5.out.below HQ11.out, HB5.out.trans (HQ11.out.mono (by omega)), by omega⟩, ?_⟩
                  simp [intOf] <;> omega
              · rw [show decide (I < 0 ∨ (N : Int) ≤ I) = false from decide_eq_false hout]
                obtain ⟨i, rfl⟩ : ∃ i : Nat, I = (i : Int) := ⟨I.toNat, by omega⟩
                have hiN : i < N := by omega
                have hiy : i < ys.length := by rw [HYl.out]; exact hiN
                have hil : i < ls.length := by rw [HP5.out.len]; exact hiy
                have hiN' : (i : Int) < (N : Int) := by omega
                have hi0' : (0 : Int) ≤ (i : Int) := by omega
                obtain ⟨x, hx⟩ : ∃ x, x = ls[i] := ⟨_, rfl⟩
                have hxm : x ∈ ls := by rw [hx]; exact List.getElem_mem hil
                obtain ⟨XC, hXC⟩ : ∃ XC, XC = x.cells := ⟨_, rfl⟩
                have hxat := HP5.out.at_ x hxm
                have HXl36 := Lib.hid (show XC.length = 36 by rw [hXC]; exact lineR_len hxat.ok.len)
                have HX1 := Lib.hid (show ∀ u ∈ XC, u.oneCell' = true by rw [hXC]; exact lineR_one rfl rfl)
                have HRx := Lib.hid (show wc.rangeAt g (i * 36) XC by rw [hXC, hx]; exact rl_range HP5.out.at_ HP5.out.lines i hil)
                have HXe := Lib.hid hx
                have HXm := Lib.hid hxm
                have HXCe := Lib.hid hXC
                have HZ6 := Lib.hid (show Blk (wc.alloc (.cells zeroRL.toArray 56)) wc.heap.size 56 zeroRL from Blk.new _ _ _)
                clear hx hxm hXC hxat hout
                go_upto_region 23 with (first
                  | (refine wpList_load_mid rfl 56 (.tmp 132) rfl g (i * 36) rfl XC _ HRx.out Tryd.underlying56 rfl (by rw [HXl36.out]; exact sizeRLine) ?_)
                  | (refine wpList_store_piece rfl 56 (.tmp 18) (.tmp 133) rfl wc.heap.size 0 rfl XC rfl 56 _ [] zeroRL [] HZ6.out (by simp) rfl (by rw [HXl36.out]; rfl) (by rw [HXl36.out]; exact sizeRLine) HX1.out ?_; intro w6 hx6 hg6))
                have HK6 := Lib.hid (show Below wc.heap.size wc w6 from ((Below.refl _ wc).alloc (Nat.le_refl _) _).grown hg6 (by simp) (fun k e => by cases e; exact Nat.le_refl _))
                have HX6 := Lib.hid (show Blk w6 wc.heap.size 56 XC from hx6.cast (by simp))
                have hz6 : wc.heap.size + 1 ≤ w6.heap.size := by have := hg6.size; simpa using this
                clear hx6 hg6 HZ6 HRx
                obtain ⟨w7, hw7⟩ : ∃ w7, w7 = (w6.alloc (.cells zeroOnce.toArray 32)).alloc (.cells zeroOnce.toArray 38) := ⟨_, rfl⟩
                have H197 := Lib.hid (show Blk w7 w6.heap.size 32 zeroOnce by rw [hw7]; exact (Blk.new _ _ _).alloc _)
                have H207 := Lib.hid (show Blk w7 (w6.heap.size + 1) 38 zeroOnce by rw [hw7]; exact Blk.at_size _ _ (by simp))
                have HK7 := Lib.hid (show Below w6.heap.size w6 w7 by rw [hw7]; exact ((Below.refl _ w6).alloc (Nat.le_refl _) _).alloc (by simp) _)
                have hz7 : w6.heap.size + 2 ≤ w7.heap.size := by rw [hw7]; simp
                have H187 := Lib.hid (HX6.out.below HK7.out (by omega))
                have HW7 := Lib.hid hw7
                clear hw7
                have HZ8 := Lib.hid (show Blk (w7.alloc (.cells zeroRL.toArray 56)) w7.heap.size 56 zeroRL from Blk.new _ _ _)
                go_upto_region 27 with fail
                have hw7 := HW7.out
                simp only [show zeroOnce.toArray = #[Value.int .i64 0, Value.int .u8 0, Value.int .u8 0, Value.int .u8 0, Value.int .u8 0, Value.int .u8 0, Value.int .u8 0, Value.int .u8 0, Value.int .u8 0, Value.int .u8 0, Value.int .u8 0, Value.int .u8 0, Value.int .u8 0, Value.int .u8 0, Value.int .u8 0, Value.int .u8 0, Value.int .u8 0, Value.int .u8 0, Value.int .u8 0, Value.int .u8 0, Value.int .u8 0, Value.int .u8 0, Value.int .u8 0, Value.int .u8 0, Value.int .u8 0, Value.int .u8 0, Value.int .u8 0, Value.int .u8 0, Value.int .u8 0, Value.int .u8 0, Value.int .u8 0, Value.int .u8 0, Value.int .u8 0, Value.slice none 0 0] from rfl] at hw7
                rw [← hw7]
                clear hw7
                go_upto_region 28 with (first
                  | (refine wpList_load_mid rfl 56 (.tmp 18) rfl wc.heap.size 0 rfl XC _ H187.out.whole Tryd.underlying56 rfl (by rw [HXl36.out]; exact sizeRLine) ?_)
                  | (refine wpList_store_piece rfl 56 (.tmp 23) (.tmp 134) rfl w7.heap.size 0 rfl XC rfl 56 _ [] zeroRL [] HZ8.out (by simp) rfl (by rw [HXl36.out]; rfl) (by rw [HXl36.out]; exact sizeRLine) HX1.out ?_; intro w8 hx8 hg8))
                have HK8 := Lib.hid (show Below w7.heap.size w7 w8 from ((Below.refl _ w7).alloc (Nat.le_refl _) _).grown hg8 (by simp) (fun k e => by cases e; exact Nat.le_refl _))
                have H238 := Lib.hid (show Blk w8 w7.heap.size 56 XC from hx8.cast (by simp))
                have hz8 : w7.heap.size + 1 ≤ w8.heap.size := by have := hg8.size; simpa using this
                have H188 := Lib.hid (H187.out.below HK8.out (by omega))
                have H198 := Lib.hid (H197.out.below HK8.out (by omega))
                have H208 := Lib.hid (H207.out.below HK8.out (by omega))
                have HQ8 := Lib.hid (show Below wc.heap.size wc w8 from HK6.out.trans ((HK7.out.mono (by omega)).trans (HK8.out.mono (by omega))))
                have HP8 := Lib.hid (HP5.out.below HQ8.out)
                have HXo8 := Lib.hid (HX5.out.below HQ8.out hgO1)
                have HB8 := Lib.hid (HB5.out.trans (HQ8.out.mono (by omega)))
                obtain ⟨g18, hg18⟩ : ∃ g18, g18 = wc.heap.size := ⟨_, rfl⟩
                obtain ⟨g19, hg19⟩ : ∃ g19, g19 = w6.heap.size := ⟨_, rfl⟩
                obtain ⟨g20, hg20⟩ : ∃ g20, g20 = w6.heap.size + 1 := ⟨_, rfl⟩
                obtain ⟨g23, hg23⟩ : ∃ g23, g23 = w7.heap.size := ⟨_, rfl⟩
                rw [← hg18] at H188
                rw [← hg20] at H208
                rw [← hg19] at H198
                rw [← hg23] at H238
                rw [← hg20, ← hg19, ← hg18, ← hg23]
                have hwc18 : wc.heap.size ≤ g18 := by omega
                have hgo18 : gO < g18 := by omega
                have hg1819 : g18 < g19 := by omega
                have hg1920 : g19 < g20 := by omega
                have hg2023 : g20 < g23 := by omega
                have hg238 : g23 < w8.heap.size := by omega
                have hwcw : w.heap.size ≤ g18 := by omega
                have htg : top ≤ gO := by have := HKz.out; omega
                clear hx8 hg8 HZ8 H187 H197 H207 HX6 HK6 HK7 HK8 hg18 hg19 hg20 hg23 hz6 hz7 hz8 c0 c1 c2
                have c0 := HXo8.out.cell 0 (u := .int .i64 kd) (by rw [HKe.out]; rfl)
                have c1 := HXo8.out.cell 1 (u := .int .i64 (i : Int)) (by rw [HIe.out]; rfl)
                have c2 := HXo8.out.cell 2 (u := .int .i64 M) (by rw [HMe.out]; rfl)
                have hgo19 : gO < g19 := by omega
                have HFree := Lib.hid (show ∀ x ∈ ls, Free g19 x ∧ Free g20 x ∧ Free g23 x from fun x hx => ⟨Free.of_new (HP5.out.at_ x hx) (by omega), Free.of_new (HP5.out.at_ x hx) (by omega), Free.of_new (HP5.out.at_ x hx) (by omega)⟩)
                go_upto_block 4 with fail
                try simp only [Act.put]
                go_cut [21, 22, 24, 55] from 55 to 251 (fun e21 e22 e24 e55 wx => e55 = .int .i64 (j : Int) ∧ ∃ (E : Nat) (zs : List LP) (z : RL) (m : Int) (key ns : List (BitVec 8)) (q d1 d2 : Nat) (A1 A2 : Option Addr) (row : Option Nat), e21 = errV E ∧ e22 = .int .i64 (E : Int) ∧ CutP wx w w.heap.size top gC gl g spare ls N i (j + 1) gO g19 g20 g23 op.cells zs z m key ns q d1 d2 A1 A2 row)
                case first =>
                  have hpk := HP8.out.ch.at_ hiy
                  have hy1000 : ys.length ≤ 1000 := by rw [HYl.out]; omega
                  have HPk := Lib.hid hpk
                  have hxl : x.l = ys[i].l := by rw [HXe.out]; exact HP8.out.eq i hiy hil
                  have HXL := Lib.hid hxl
                  have hxa : x.At w8 := HP8.out.at_ x HXm.out
                  have HXa := Lib.hid hxa
                  have hxas : x.l.asked.length ≤ 1000 := by have := HAs.out x HXm.out; omega
                  have HXas := Lib.hid hxas
                  have hxgl : Free gl x := Free.of_blk hxa hpk.lines (by decide) (HP8.out.farh x HXm.out) (HP8.out.fara x HXm.out) hglt
                  have HXgl := Lib.hid hxgl
                  have hlok := (hpk.ok _ (List.getElem_mem hiy)).lok
                  have hpl1 := hlok.top
                  have hpl2 := hlok.lowp
                  have hpl3 := hlok.low0
                  obtain ⟨P, hP⟩ : ∃ P, P = ys[i].l.place := ⟨_, rfl⟩
                  rw [← hP] at hpl1 hpl2
                  have HPe := Lib.hid hP
                  clear hpk hxl hxa hxas hxgl hlok hP
                  have hggl : gl ≠ g := by omega
                  by_cases h0 : kd = 0
                  · subst h0
                    have hPe : takeE ys[i].l P = takeE ys[i].l ys[i].l.place := by rw [HPe.out]
                    have HPE := Lib.hid hPe
                    clear hPe
                    by_cases hE : takeE ys[i].l P = 0
                    · as_aux_lemma =>
                        have HE := Lib.hid hE
                        have hE' : takeE x.l P = 0 := by rw [HXL.out]; exact hE
                        have HE' := Lib.hid hE'
                        have hpr := next_okZ w8 gC gl ys HPk.out i hiy hy1000 (by rw [← HPE.out]; exact hE)
                        rw [← HPe.out] at hpr
                        have HKl := Lib.hid (takeO_lens (HPk.out.ok _ (List.getElem_mem hiy)).lok hE).1
                        obtain ⟨O, hO⟩ : ∃ O, O = takeO ys[i].l P := ⟨_, rfl⟩
                        rw [← hO] at hpr HKl
                        have HOe := Lib.hid hO
                        have HPr := Lib.hid hpr
                        clear hE hE' hpr hO
                        go_wp2_with fail
                        refine HPr.out.mono ?_
                        rintro e w9 ⟨b, y, rfl, hA9, hyl9, hC9, hnd9, hg9, hgm9, hzz9⟩
                        have H199 := Lib.hid (H198.out.grown hg9 (fun e => by injection e with e; omega))
                        have H209 := Lib.hid (H208.out.grown hg9 (fun e => by injection e with e; omega))
                        have H239 := Lib.hid (H238.out.grown hg9 (fun e => by injection e with e; omega))
                        have H189 := Lib.hid (H188.out.grown hg9 (fun e => by injection e with e; omega))
                        have HXo9 := Lib.hid (HXo8.out.grown hg9 (fun e => by injection e with e; omega))
                        have HXa9 := Lib.hid (HXa.out.free hg9 HXgl.out)
                        have HA9 := Lib.hid hA9
                        have HYl9 := Lib.hid hyl9
                        have HC9 := Lib.hid hC9
                        have HNd9 := Lib.hid hnd9
                        have HG9 := Lib.hid hg9
                        have HGm9 := Lib.hid hgm9
                        have HZz9 := Lib.hid hzz9
                        have hs9 := hg9.size
                        clear hA9 hyl9 hC9 hnd9 hg9 hgm9 hzz9 HPr
                        go_upto_region 35 with (refine wpList_store_piece rfl 32 (.tmp 19) (.tmp 159) rfl g19 0 rfl (onceC P O.key (nonceS b)) rfl 32 _ [] zeroOnce [] H199.out (by simp) rfl (by rw [onceC_len _ _ _ HKl.out]; rfl) (by rw [onceC_len _ _ _ HKl.out]; exact sizeOnce) (onceC_one _ _ _ _ _) ?_; intro w10 hx10 hg10)
                        have K10 := Lib.hid (show Blk w10 g19 32 (onceC P O.key (nonceS b)) from hx10.cast (by simp))
                        have HG10 := Lib.hid hg10
                        have H1810 := Lib.hid (H189.out.grown hg10 (fun e => by injection e with e; omega))
                        have H2010 := Lib.hid (H209.out.grown hg10 (fun e => by injection e with e; omega))
                        have H2310 := Lib.hid (H239.out.grown hg10 (fun e => by injection e with e; omega))
                        have HXo10 := Lib.hid (HXo9.out.grown hg10 (fun e => by injection e with e; omega))
                        have hs10 := hg10.size
                        have hxa10 := HXa9.out.free hg10 (HFree.out x HXm.out).1
                        have c32 := H1810.out.cell 32 (u := .int .i64 P) (by rw [HXCe.out, HPe.out, ← HXL.out]; exact lineR_32 HXa.out.ok.len)
                        have hrf := refTake_any w10 x hxa10 HXas.out P (by omega) (by omega)
                        unfold TakePost at hrf
                        rw [← HXCe.out] at hrf
                        have HRf := Lib.hid hrf
                        clear hx10 hg10 hrf hxa10
                        go_wp2_with (refine wpList_load_mid rfl 56 (.tmp 18) rfl g18 0 rfl XC _ H1810.out.whole Tryd.underlying56 rfl (by rw [HXl36.out]; exact sizeRLine) ?_)
                        refine HRf.out.mono ?_
                        rintro e w11 ⟨-, hok11, hb11⟩
                        obtain ⟨gn, off, cn, z, rfl, hzl, hzat, hro, hzr, hzh, hza, hgn⟩ := hok11 HE'.out
                        have HKx := Lib.hid (show (takeO x.l P).key.length = 32 by rw [HXL.out, ← HOe.out]; exact HKl.out)
                        obtain ⟨Oc, hOc⟩ : ∃ Oc, Oc = onceC P (takeO x.l P).key (.slice (some ⟨gn, off, none⟩) 12 cn) := ⟨_, rfl⟩
                        have HOc := Lib.hid hOc
                        have HOc34 := Lib.hid (show Oc.length = 34 by rw [hOc]; exact onceC_len _ _ _ HKx.out)
                        have HOc1 := Lib.hid (show ∀ u ∈ Oc, u.oneCell' = true by rw [hOc]; exact onceC_one _ _ _ _ _)
                        rw [← hOc]
                        obtain ⟨ZC, hZC⟩ : ∃ ZC, ZC = z.cells := ⟨_, rfl⟩
                        have HZC := Lib.hid hZC
                        have HZ36 := Lib.hid (show ZC.length = 36 by rw [hZC]; exact lineR_len hzat.ok.len)
                        have HZC1 := Lib.hid (show ∀ u ∈ ZC, u.oneCell' = true by rw [hZC]; exact lineR_one rfl rfl)
                        rw [← hZC]
                        have H2011 := Lib.hid (H2010.out.below hb11 H2010.out.lt)
                        have H2311 := Lib.hid (H2310.out.below hb11 H2310.out.lt)
                        have HZL' := Lib.hid hzl
                        have HZAT' := Lib.hid hzat
                        have HRO' := Lib.hid hro
                        have HZR' := Lib.hid hzr
                        have HZH' := Lib.hid hzh
                        have HZA' := Lib.hid hza
                        have HB11' := Lib.hid hb11
                        have hs11 := hb11.size
                        clear hok11 hzl hzat hro hzr hzh hza hgn hb11 hOc hZC HRf
                        go_wp2_with (first
                          | (refine wpList_store_piece rfl 38 (.tmp 20) (.tmp 166) rfl g20 0 rfl Oc rfl 38 _ [] zeroOnce [] H2011.out (by simp) rfl (by rw [HOc34.out]; rfl) (by rw [HOc34.out]; exact sizeROnce) HOc1.out ?_; intro w12 hx12 hg12
                             have H2312 := Lib.hid (H2311.out.grown hg12 (fun e => by injection e with e; omega))
                             have HX12 := Lib.hid hx12
                             have HG12 := Lib.hid hg12
                             clear hx12 hg12)
                          | (refine wpList_store_piece rfl 56 (.tmp 23) (.tmp 167) rfl g23 0 rfl ZC rfl 56 _ [] XC [] H2312.out (by simp) rfl (by rw [HZ36.out, HXl36.out]) (by rw [HZ36.out]; exact sizeRLine) HZC1.out ?_; intro w13 hx13 hg13))
                        go_meet
                        case rel =>
                          refine ⟨rfl, 0, ys.set i y, z, P, O.key, O.nonce, 12, 12, cn, some ⟨b, 32, none⟩, some ⟨gn, off, none⟩, some b, rfl, rfl, ?_⟩
                          have k12 : Blk w12 g20 38 (onceC P (takeO ls[i].l P).key (.slice (some ⟨gn, off, none⟩) 12 cn)) := by rw [← HXe.out, ← HOc.out]; exact HX12.out.cast (by simp)
                          have k13 : Blk w13 g23 56 z.cells := by rw [← HZC.out]; exact hx13.cast (by simp)
                          have hzl := HZL'.out
                          have hro := HRO'.out
                          have hzr := HZR'.out
                          rw [HXe.out] at hzl hro hzr
                          have hA9 := HA9.out
                          have hyl9 := HYl9.out
                          have h10 := K10.out
                          rw [HOe.out] at hA9 h10 ⊢
                          exact cutP_take HP8.out HB8.out hiy hil HYl.out HXo8.out H198.out H208.out H238.out htg hgo19 hg1920 hg2023 hgt hglt hggl hwgl (by omega) HFree.out (fun x hx => by have := HAs.out x hx; omega) HE.out hA9 hyl9 HC9.out HNd9.out HG9.out HGm9.out HZz9.out h10 HG10.out hzl HZAT'.out hro hzr HZH'.out HZA'.out HB11'.out HG12.out k12 hg13 k13
                    · as_aux_lemma =>
                        have HE := Lib.hid hE
                        have hE' : takeE x.l P ≠ 0 := by rw [HXL.out]; exact hE
                        have HE' := Lib.hid hE'
                        have hpr := next_bad w8 gC gl ys HPk.out i hiy hy1000 (by rw [← HPE.out]; exact hE)
                        rw [← HPE.out] at hpr
                        obtain ⟨E, hEe⟩ : ∃ E, E = takeE ys[i].l P := ⟨_, rfl⟩
                        rw [← hEe] at hpr
                        have HEe := Lib.hid hEe
                        have HPr := Lib.hid hpr
                        clear hE hE' hpr hEe
                        go_wp2_with fail
                        refine HPr.out.mono ?_
                        rintro e w9 ⟨rfl, hb9⟩
                        have H199 := Lib.hid (H198.out.below hb9 H198.out.lt)
                        have H209 := Lib.hid (H208.out.below hb9 H208.out.lt)
                        have H239 := Lib.hid (H238.out.below hb9 H238.out.lt)
                        have H189 := Lib.hid (H188.out.below hb9 H188.out.lt)
                        have HXo9 := Lib.hid (HXo8.out.below hb9 HXo8.out.lt)
                        have HXa9 := Lib.hid (HXa.out.below hb9 (Nat.le_refl _))
                        have HB9 := Lib.hid hb9
                        have hs9 := hb9.size
                        clear hb9 HPr
                        go_upto_region 35 with (refine wpList_store_piece rfl 32 (.tmp 19) (.tmp 159) rfl g19 0 rfl (zeroOnce) rfl 32 _ [] zeroOnce [] H199.out (by simp) rfl (by rfl) (by exact sizeOnce) (onceC_one _ _ _ _ _) ?_; intro w10 hx10 hg10)
                        have K10 := Lib.hid (show Blk w10 g19 32 zeroOnce from hx10.cast (by simp))
                        have HG10 := Lib.hid hg10
                        have H1810 := Lib.hid (H189.out.grown hg10 (fun e => by injection e with e; omega))
                        have H2010 := Lib.hid (H209.out.grown hg10 (fun e => by injection e with e; omega))
                        have H2310 := Lib.hid (H239.out.grown hg10 (fun e => by injection e with e; omega))
                        have HXo10 := Lib.hid (HXo9.out.grown hg10 (fun e => by injection e with e; omega))
                        have hs10 := hg10.size
                        have hxa10 := HXa9.out.free hg10 (HFree.out x HXm.out).1
                        have HXa10 := Lib.hid hxa10
                        have c32 := H1810.out.cell 32 (u := .int .i64 P) (by rw [HXCe.out, HPe.out, ← HXL.out]; exact lineR_32 HXa.out.ok.len)
                        have hrf := refTake_any w10 x hxa10 HXas.out P (by omega) (by omega)
                        unfold TakePost at hrf
                        rw [← HXCe.out, show takeE x.l P = E by rw [HXL.out]; exact HEe.out.symm] at hrf
                        have HRf := Lib.hid hrf
                        clear hx10 hg10 hrf hxa10
                        go_wp2_with (refine wpList_load_mid rfl 56 (.tmp 18) rfl g18 0 rfl XC _ H1810.out.whole Tryd.underlying56 rfl (by rw [HXl36.out]; exact sizeRLine) ?_)
                        refine HRf.out.mono ?_
                        rintro e w11 ⟨hno11, -, hb11⟩
                        have hno12 := hno11 (by rw [HEe.out]; exact HE.out)
                        subst hno12
                        have H2011 := Lib.hid (H2010.out.below hb11 H2010.out.lt)
                        have H2311 := Lib.hid (H2310.out.below hb11 H2310.out.lt)
                        have K11 := Lib.hid (K10.out.below hb11 K10.out.lt)
                        have HB11' := Lib.hid hb11
                        have hs11 := hb11.size
                        clear hno11 hb11 HRf
                        go_wp2_with (first
                          | (refine wpList_store_piece rfl 38 (.tmp 20) (.tmp 166) rfl g20 0 rfl zeroOnce rfl 38 _ [] zeroOnce [] H2011.out (by simp) rfl rfl sizeROnce (onceC_one _ _ _ _ _) ?_; intro w12 hx12 hg12
                             have H2312 := Lib.hid (H2311.out.grown hg12 (fun e => by injection e with e; omega))
                             have HX12 := Lib.hid hx12
                             have HG12 := Lib.hid hg12
                             clear hx12 hg12)
                          | (refine wpList_store_piece rfl 56 (.tmp 23) (.tmp 167) rfl g23 0 rfl XC rfl 56 _ [] XC [] H2312.out (by simp) rfl rfl (by rw [HXl36.out]; exact sizeRLine) HX1.out ?_; intro w13 hx13 hg13))
                        go_meet
                        case rel =>
                          refine ⟨rfl, E, ys, ls[i], 0, List.replicate 32 0#8, [], 0, 0, 0, none, none, none, rfl, rfl, ?_⟩
                          have F9 : Frm w9 w13 [g19, g20, g23] := ((((Frm.refl w9 _).grown HG10.out (by simp)).below HB11'.out (Nat.le_refl _)).grown HG12.out (by simp)).grown hg13 (by simp)
                          have k20 : Blk w12 g20 38 zeroOnce := HX12.out.cast (by simp)
                          have k23 : Blk w13 g23 56 ls[i].cells := by rw [← HXe.out, ← HXCe.out]; exact hx13.cast (by simp)
                          have k19 := (K11.out.grown HG12.out (fun e => by injection e with e; omega)).grown hg13 (fun e => by injection e with e; omega)
                          have k20' := k20.grown hg13 (fun e => by injection e with e; omega)
                          have hz13 : ls[i].At w13 := by
                            rw [← HXe.out]
                            refine HXa9.out.frm F9 (fun q hq => ?_)
                            obtain ⟨f1, f2, f3⟩ := HFree.out x HXm.out
                            simp only [List.mem_cons, List.not_mem_nil, or_false] at hq
                            rcases hq with rfl | rfl | rfl <;> assumption
                          exact cutP_zero (S := []) HP8.out HB8.out hil HXo8.out (Typed.of H199.out (by decide) (by decide) (by decide)) (Typed.of H209.out (by decide) (by decide) (by decide)) (Typed.of H239.out (by decide) (by decide) (by decide)) (by omega) htg hgo19 hg1920 hg2023 hgt HFree.out (HPk.out.below HB9.out) HYl.out (fun h => (HP8.out.eq i h hil).symm) (fun k h h2 _ => HP8.out.eq k h h2) HP8.out.gms HP8.out.hpb HP8.out.sep ((Frm.refl w8 []).below HB9.out (Nat.le_refl _)) (fun q hq => by cases hq) F9 k19 k20' k23 hz13 (fun o ho => ho) (.inl rfl) rfl (by have := HAs.out _ (List.getElem_mem hil); omega)
                  by_cases h1 : kd = 1
                  · subst h1
                    by_cases hE : takeE ys[i].l M = 0
                    · as_aux_lemma =>
                        have HE := Lib.hid hE
                        have hE' : takeE x.l M = 0 := by rw [HXL.out]; exact hE
                        have HE' := Lib.hid hE'
                        have hpr := ctake_okZ w8 gC gl ys HPk.out i hiy hy1000 M hE
                        have HKl := Lib.hid (takeO_lens (HPk.out.ok _ (List.getElem_mem hiy)).lok hE).1
                        obtain ⟨O, hO⟩ : ∃ O, O = takeO ys[i].l M := ⟨_, rfl⟩
                        rw [← hO] at hpr HKl
                        have HOe := Lib.hid hO
                        have HPr := Lib.hid hpr
                        clear hE hE' hpr hO
                        go_wp2_with fail
                        refine HPr.out.mono ?_
                        rintro e w9 ⟨b, y, rfl, hA9, hyl9, hC9, hnd9, hg9, hgm9, hzz9⟩
                        have H199 := Lib.hid (H198.out.grown hg9 (fun e => by injection e with e; omega))
                        have H209 := Lib.hid (H208.out.grown hg9 (fun e => by injection e with e; omega))
                        have H239 := Lib.hid (H238.out.grown hg9 (fun e => by injection e with e; omega))
                        have H189 := Lib.hid (H188.out.grown hg9 (fun e => by injection e with e; omega))
                        have HXo9 := Lib.hid (HXo8.out.grown hg9 (fun e => by injection e with e; omega))
                        have HXa9 := Lib.hid (HXa.out.free hg9 HXgl.out)
                        have HA9 := Lib.hid hA9
                        have HYl9 := Lib.hid hyl9
                        have HC9 := Lib.hid hC9
                        have HNd9 := Lib.hid hnd9
                        have HG9 := Lib.hid hg9
                        have HGm9 := Lib.hid hgm9
                        have HZz9 := Lib.hid hzz9
                        have hs9 := hg9.size
                        clear hA9 hyl9 hC9 hnd9 hg9 hgm9 hzz9 HPr
                        go_upto_region 38 with (refine wpList_store_piece rfl 32 (.tmp 19) (.tmp 178) rfl g19 0 rfl (onceC M O.key (nonceS b)) rfl 32 _ [] zeroOnce [] H199.out (by simp) rfl (by rw [onceC_len _ _ _ HKl.out]; rfl) (by rw [onceC_len _ _ _ HKl.out]; exact sizeOnce) (onceC_one _ _ _ _ _) ?_; intro w10 hx10 hg10)
                        have K10 := Lib.hid (show Blk w10 g19 32 (onceC M O.key (nonceS b)) from hx10.cast (by simp))
                        have HG10 := Lib.hid hg10
                        have H1810 := Lib.hid (H189.out.grown hg10 (fun e => by injection e with e; omega))
                        have H2010 := Lib.hid (H209.out.grown hg10 (fun e => by injection e with e; omega))
                        have H2310 := Lib.hid (H239.out.grown hg10 (fun e => by injection e with e; omega))
                        have HXo10 := Lib.hid (HXo9.out.grown hg10 (fun e => by injection e with e; omega))
                        have hs10 := hg10.size
                        have hxa10 := HXa9.out.free hg10 (HFree.out x HXm.out).1
                        have c2 := HXo10.out.cell 2 (u := .int .i64 M) (by rw [HMe.out]; rfl)
                        have hrf := refTake_any w10 x hxa10 HXas.out M (by omega) (by omega)
                        unfold TakePost at hrf
                        rw [← HXCe.out] at hrf
                        have HRf := Lib.hid hrf
                        clear hx10 hg10 hrf hxa10
                        go_wp2_with (refine wpList_load_mid rfl 56 (.tmp 18) rfl g18 0 rfl XC _ H1810.out.whole Tryd.underlying56 rfl (by rw [HXl36.out]; exact sizeRLine) ?_)
                        refine HRf.out.mono ?_
                        rintro e w11 ⟨-, hok11, hb11⟩
                        obtain ⟨gn, off, cn, z, rfl, hzl, hzat, hro, hzr, hzh, hza, hgn⟩ := hok11 HE'.out
                        have HKx := Lib.hid (show (takeO x.l M).key.length = 32 by rw [HXL.out, ← HOe.out]; exact HKl.out)
                        obtain ⟨Oc, hOc⟩ : ∃ Oc, Oc = onceC M (takeO x.l M).key (.slice (some ⟨gn, off, none⟩) 12 cn) := ⟨_, rfl⟩
                        have HOc := Lib.hid hOc
                        have HOc34 := Lib.hid (show Oc.length = 34 by rw [hOc]; exact onceC_len _ _ _ HKx.out)
                        have HOc1 := Lib.hid (show ∀ u ∈ Oc, u.oneCell' = true by rw [hOc]; exact onceC_one _ _ _ _ _)
                        rw [← hOc]
                        obtain ⟨ZC, hZC⟩ : ∃ ZC, ZC = z.cells := ⟨_, rfl⟩
                        have HZC := Lib.hid hZC
                        have HZ36 := Lib.hid (show ZC.length = 36 by rw [hZC]; exact lineR_len hzat.ok.len)
                        have HZC1 := Lib.hid (show ∀ u ∈ ZC, u.oneCell' = true by rw [hZC]; exact lineR_one rfl rfl)
                        rw [← hZC]
                        have H2011 := Lib.hid (H2010.out.below hb11 H2010.out.lt)
                        have H2311 := Lib.hid (H2310.out.below hb11 H2310.out.lt)
                        have HZL' := Lib.hid hzl
                        have HZAT' := Lib.hid hzat
                        have HRO' := Lib.hid hro
                        have HZR' := Lib.hid hzr
                        have HZH' := Lib.hid hzh
                        have HZA' := Lib.hid hza
                        have HB11' := Lib.hid hb11
                        have hs11 := hb11.size
                        clear hok11 hzl hzat hro hzr hzh hza hgn hb11 hOc hZC HRf
                        go_wp2_with (first
                          | (refine wpList_store_piece rfl 38 (.tmp 20) (.tmp 185) rfl g20 0 rfl Oc rfl 38 _ [] zeroOnce [] H2011.out (by simp) rfl (by rw [HOc34.out]; rfl) (by rw [HOc34.out]; exact sizeROnce) HOc1.out ?_; intro w12 hx12 hg12
                             have H2312 := Lib.hid (H2311.out.grown hg12 (fun e => by injection e with e; omega))
                             have HX12 := Lib.hid hx12
                             have HG12 := Lib.hid hg12
                             clear hx12 hg12)
                          | (refine wpList_store_piece rfl 56 (.tmp 23) (.tmp 186) rfl g23 0 rfl ZC rfl 56 _ [] XC [] H2312.out (by simp) rfl (by rw [HZ36.out, HXl36.out]) (by rw [HZ36.out]; exact sizeRLine) HZC1.out ?_; intro w13 hx13 hg13))
                        go_meet
                        case rel =>
                          refine ⟨rfl, 0, ys.set i y, z, M, O.key, O.nonce, 12, 12, cn, some ⟨b, 32, none⟩, some ⟨gn, off, none⟩, some b, rfl, rfl, ?_⟩
                          have k12 : Blk w12 g20 38 (onceC M (takeO ls[i].l M).key (.slice (some ⟨gn, off, none⟩) 12 cn)) := by rw [← HXe.out, ← HOc.out]; exact HX12.out.cast (by simp)
                          have k13 : Blk w13 g23 56 z.cells := by rw [← HZC.out]; exact hx13.cast (by simp)
                          have hzl := HZL'.out
                          have hro := HRO'.out
                          have hzr := HZR'.out
                          rw [HXe.out] at hzl hro hzr
                          have hA9 := HA9.out
                          have hyl9 := HYl9.out
                          have h10 := K10.out
                          rw [HOe.out] at hA9 h10 ⊢
                          exact cutP_take HP8.out HB8.out hiy hil HYl.out HXo8.out H198.out H208.out H238.out htg hgo19 hg1920 hg2023 hgt hglt hggl hwgl (by omega) HFree.out (fun x hx => by have := HAs.out x hx; omega) HE.out hA9 hyl9 HC9.out HNd9.out HG9.out HGm9.out HZz9.out h10 HG10.out hzl HZAT'.out hro hzr HZH'.out HZA'.out HB11'.out HG12.out k12 hg13 k13
                    · as_aux_lemma =>
                        have HE := Lib.hid hE
                        have hE' : takeE x.l M ≠ 0 := by rw [HXL.out]; exact hE
                        have HE' := Lib.hid hE'
                        have hpr := ctake_bad w8 gC gl ys HPk.out i hiy hy1000 M hE
                        obtain ⟨E, hEe⟩ : ∃ E, E = takeE ys[i].l M := ⟨_, rfl⟩
                        rw [← hEe] at hpr
                        have HEe := Lib.hid hEe
                        have HPr := Lib.hid hpr
                        clear hE hE' hpr hEe
                        go_wp2_with fail
                        refine HPr.out.mono ?_
                        rintro e w9 ⟨rfl, hb9⟩
                        have H199 := Lib.hid (H198.out.below hb9 H198.out.lt)
                        have H209 := Lib.hid (H208.out.below hb9 H208.out.lt)
                        have H239 := Lib.hid (H238.out.below hb9 H238.out.lt)
                        have H189 := Lib.hid (H188.out.below hb9 H188.out.lt)
                        have HXo9 := Lib.hid (HXo8.out.below hb9 HXo8.out.lt)
                        have HXa9 := Lib.hid (HXa.out.below hb9 (Nat.le_refl _))
                        have HB9 := Lib.hid hb9
                        have hs9 := hb9.size
                        clear hb9 HPr
                        go_upto_region 38 with (refine wpList_store_piece rfl 32 (.tmp 19) (.tmp 178) rfl g19 0 rfl (zeroOnce) rfl 32 _ [] zeroOnce [] H199.out (by simp) rfl (by rfl) (by exact sizeOnce) (onceC_one _ _ _ _ _) ?_; intro w10 hx10 hg10)
                        have K10 := Lib.hid (show Blk w10 g19 32 zeroOnce from hx10.cast (by simp))
                        have HG10 := Lib.hid hg10
                        have H1810 := Lib.hid (H189.out.grown hg10 (fun e => by injection e with e; omega))
                        have H2010 := Lib.hid (H209.out.grown hg10 (fun e => by injection e with e; omega))
                        have H2310 := Lib.hid (H239.out.grown hg10 (fun e => by injection e with e; omega))
                        have HXo10 := Lib.hid (HXo9.out.grown hg10 (fun e => by injection e with e; omega))
                        have hs10 := hg10.size
                        have hxa10 := HXa9.out.free hg10 (HFree.out x HXm.out).1
                        have HXa10 := Lib.hid hxa10
                        have c2 := HXo10.out.cell 2 (u := .int .i64 M) (by rw [HMe.out]; rfl)
                        have hrf := refTake_any w10 x hxa10 HXas.out M (by omega) (by omega)
                        unfold TakePost at hrf
                        rw [← HXCe.out, show takeE x.l M = E by rw [HXL.out]; exact HEe.out.symm] at hrf
                        have HRf := Lib.hid hrf
                        clear hx10 hg10 hrf hxa10
                        go_wp2_with (refine wpList_load_mid rfl 56 (.tmp 18) rfl g18 0 rfl XC _ H1810.out.whole Tryd.underlying56 rfl (by rw [HXl36.out]; exact sizeRLine) ?_)
                        refine HRf.out.mono ?_
                        rintro e w11 ⟨hno11, -, hb11⟩
                        have hno12 := hno11 (by rw [HEe.out]; exact HE.out)
                        subst hno12
                        have H2011 := Lib.hid (H2010.out.below hb11 H2010.out.lt)
                        have H2311 := Lib.hid (H2310.out.below hb11 H2310.out.lt)
                        have K11 := Lib.hid (K10.out.below hb11 K10.out.lt)
                        have HB11' := Lib.hid hb11
                        have hs11 := hb11.size
                        clear hno11 hb11 HRf
                        go_wp2_with (first
                          | (refine wpList_store_piece rfl 38 (.tmp 20) (.tmp 185) rfl g20 0 rfl zeroOnce rfl 38 _ [] zeroOnce [] H2011.out (by simp) rfl rfl sizeROnce (onceC_one _ _ _ _ _) ?_; intro w12 hx12 hg12
                             have H2312 := Lib.hid (H2311.out.grown hg12 (fun e => by injection e with e; omega))
                             have HX12 := Lib.hid hx12
                             have HG12 := Lib.hid hg12
                             clear hx12 hg12)
                          | (refine wpList_store_piece rfl 56 (.tmp 23) (.tmp 186) rfl g23 0 rfl XC rfl 56 _ [] XC [] H2312.out (by simp) rfl rfl (by rw [HXl36.out]; exact sizeRLine) HX1.out ?_; intro w13 hx13 hg13))
                        go_meet
                        case rel =>
                          refine ⟨rfl, E, ys, ls[i], 0, List.replicate 32 0#8, [], 0, 0, 0, none, none, none, rfl, rfl, ?_⟩
                          have F9 : Frm w9 w13 [g19, g20, g23] := ((((Frm.refl w9 _).grown HG10.out (by simp)).below HB11'.out (Nat.le_refl _)).grown HG12.out (by simp)).grown hg13 (by simp)
                          have k20 : Blk w12 g20 38 zeroOnce := HX12.out.cast (by simp)
                          have k23 : Blk w13 g23 56 ls[i].cells := by rw [← HXe.out, ← HXCe.out]; exact hx13.cast (by simp)
                          have k19 := (K11.out.grown HG12.out (fun e => by injection e with e; omega)).grown hg13 (fun e => by injection e with e; omega)
                          have k20' := k20.grown hg13 (fun e => by injection e with e; omega)
                          have hz13 : ls[i].At w13 := by
                            rw [← HXe.out]
                            refine HXa9.out.frm F9 (fun q hq => ?_)
                            obtain ⟨f1, f2, f3⟩ := HFree.out x HXm.out
                            simp only [List.mem_cons, List.not_mem_nil, or_false] at hq
                            rcases hq with rfl | rfl | rfl <;> assumption
                          exact cutP_zero (S := []) HP8.out HB8.out hil HXo8.out (Typed.of H199.out (by decide) (by decide) (by decide)) (Typed.of H209.out (by decide) (by decide) (by decide)) (Typed.of H239.out (by decide) (by decide) (by decide)) (by omega) htg hgo19 hg1920 hg2023 hgt HFree.out (HPk.out.below HB9.out) HYl.out (fun h => (HP8.out.eq i h hil).symm) (fun k h h2 _ => HP8.out.eq k h h2) HP8.out.gms HP8.out.hpb HP8.out.sep ((Frm.refl w8 []).below HB9.out (Nat.le_refl _)) (fun q hq => by cases hq) F9 k19 k20' k23 hz13 (fun o ho => ho) (.inl rfl) rfl (by have := HAs.out _ (List.getElem_mem hil); omega)
                  by_cases h2 : kd = 2
                  · subst h2
                    by_cases hE : takeE ys[i].l M = 0
                    · as_aux_lemma =>
                        have HE := Lib.hid hE
                        have hE' : takeE x.l M = 0 := by rw [HXL.out]; exact hE
                        have HE' := Lib.hid hE'
                        have hpr := look_ok w8 gC gl ys HPk.out i hiy hy1000 M hE
                        have HKl := Lib.hid (takeO_lens (HPk.out.ok _ (List.getElem_mem hiy)).lok hE).1
                        obtain ⟨O, hO⟩ : ∃ O, O = takeO ys[i].l M := ⟨_, rfl⟩
                        rw [← hO] at hpr HKl
                        have HOe := Lib.hid hO
                        have HPr := Lib.hid hpr
                        clear hE hE' hpr hO
                        go_wp2_with fail
                        refine HPr.out.mono ?_
                        rintro e w9 ⟨gk, ck, rfl, hgk9, hO9, hb9⟩
                        have H199 := Lib.hid (H198.out.below hb9 H198.out.lt)
                        have H209 := Lib.hid (H208.out.below hb9 H208.out.lt)
                        have H239 := Lib.hid (H238.out.below hb9 H238.out.lt)
                        have H189 := Lib.hid (H188.out.below hb9 H188.out.lt)
                        have HXo9 := Lib.hid (HXo8.out.below hb9 HXo8.out.lt)
                        have HXa9 := Lib.hid (HXa.out.below hb9 (Nat.le_refl _))
                        have HO9 := Lib.hid hO9
                        have HB9 := Lib.hid hb9
                        have HGk := Lib.hid hgk9
                        have hs9 := hb9.size
                        clear hO9 hb9 HPr
                        go_upto_region 41 with (refine wpList_store_piece rfl 32 (.tmp 19) (.tmp 197) rfl g19 0 rfl (onceC M O.key (.slice (some ⟨gk, 0, none⟩) 12 ck)) rfl 32 _ [] zeroOnce [] H199.out (by simp) rfl (by rw [onceC_len _ _ _ HKl.out]; rfl) (by rw [onceC_len _ _ _ HKl.out]; exact sizeOnce) (onceC_one _ _ _ _ _) ?_; intro w10 hx10 hg10)
                        have K10 := Lib.hid (show Blk w10 g19 32 (onceC M O.key (.slice (some ⟨gk, 0, none⟩) 12 ck)) from hx10.cast (by simp))
                        have HG10 := Lib.hid hg10
                        have H1810 := Lib.hid (H189.out.grown hg10 (fun e => by injection e with e; omega))
                        have H2010 := Lib.hid (H209.out.grown hg10 (fun e => by injection e with e; omega))
                        have H2310 := Lib.hid (H239.out.grown hg10 (fun e => by injection e with e; omega))
                        have HXo10 := Lib.hid (HXo9.out.grown hg10 (fun e => by injection e with e; omega))
                        have hs10 := hg10.size
                        have hxa10 := HXa9.out.free hg10 (HFree.out x HXm.out).1
                        have c2 := HXo10.out.cell 2 (u := .int .i64 M) (by rw [HMe.out]; rfl)
                        have hrf := refTake_any w10 x hxa10 HXas.out M (by omega) (by omega)
                        unfold TakePost at hrf
                        rw [← HXCe.out] at hrf
                        have HRf := Lib.hid hrf
                        clear hx10 hg10 hrf hxa10
                        go_wp2_with (refine wpList_load_mid rfl 56 (.tmp 18) rfl g18 0 rfl XC _ H1810.out.whole Tryd.underlying56 rfl (by rw [HXl36.out]; exact sizeRLine) ?_)
                        refine HRf.out.mono ?_
                        rintro e w11 ⟨-, hok11, hb11⟩
                        obtain ⟨gn, off, cn, z, rfl, hzl, hzat, hro, hzr, hzh, hza, hgn⟩ := hok11 HE'.out
                        have HKx := Lib.hid (show (takeO x.l M).key.length = 32 by rw [HXL.out, ← HOe.out]; exact HKl.out)
                        obtain ⟨Oc, hOc⟩ : ∃ Oc, Oc = onceC M (takeO x.l M).key (.slice (some ⟨gn, off, none⟩) 12 cn) := ⟨_, rfl⟩
                        have HOc := Lib.hid hOc
                        have HOc34 := Lib.hid (show Oc.length = 34 by rw [hOc]; exact onceC_len _ _ _ HKx.out)
                        have HOc1 := Lib.hid (show ∀ u ∈ Oc, u.oneCell' = true by rw [hOc]; exact onceC_one _ _ _ _ _)
                        rw [← hOc]
                        obtain ⟨ZC, hZC⟩ : ∃ ZC, ZC = z.cells := ⟨_, rfl⟩
                        have HZC := Lib.hid hZC
                        have HZ36 := Lib.hid (show ZC.length = 36 by rw [hZC]; exact lineR_len hzat.ok.len)
                        have HZC1 := Lib.hid (show ∀ u ∈ ZC, u.oneCell' = true by rw [hZC]; exact lineR_one rfl rfl)
                        rw [← hZC]
                        have H2011 := Lib.hid (H2010.out.below hb11 H2010.out.lt)
                        have H2311 := Lib.hid (H2310.out.below hb11 H2310.out.lt)
                        have HZL' := Lib.hid hzl
                        have HZAT' := Lib.hid hzat
                        have HRO' := Lib.hid hro
                        have HZR' := Lib.hid hzr
                        have HZH' := Lib.hid hzh
                        have HZA' := Lib.hid hza
                        have HB11' := Lib.hid hb11
                        have hs11 := hb11.size
                        clear hok11 hzl hzat hro hzr hzh hza hgn hb11 hOc hZC HRf
                        go_wp2_with (refine wpList_store_piece rfl 38 (.tmp 20) (.tmp 204) rfl g20 0 rfl Oc rfl 38 _ [] zeroOnce [] H2011.out (by simp) rfl (by rw [HOc34.out]; rfl) (by rw [HOc34.out]; exact sizeROnce) HOc1.out ?_; intro w12 hx12 hg12)
                        go_meet
                        case rel =>
                          refine ⟨rfl, 0, ys, ls[i], M, O.key, O.nonce, 12, ck, cn, some ⟨gk, 0, none⟩, some ⟨gn, off, none⟩, some gk, rfl, rfl, ?_⟩
                          have k12 : Blk w12 g20 38 (onceC M (takeO ls[i].l M).key (.slice (some ⟨gn, off, none⟩) 12 cn)) := by rw [← HXe.out, ← HOc.out]; exact hx12.cast (by simp)
                          have hro := HRO'.out
                          rw [HXe.out] at hro
                          have hO9 := HO9.out
                          have h10 := K10.out
                          rw [HOe.out] at hO9 h10 ⊢
                          have h23 := H238.out
                          rw [HXCe.out, HXe.out] at h23
                          exact cutP_look HP8.out HB8.out hiy hil HYl.out HXo8.out H198.out H208.out h23 htg hgo19 hg1920 hg2023 hgt (by omega) HFree.out (fun x hx => by have := HAs.out x hx; omega) HE.out HGk.out hO9 HB9.out h10 HG10.out hro HB11'.out hg12 k12
                    · as_aux_lemma =>
                        have HE := Lib.hid hE
                        have hE' : takeE x.l M ≠ 0 := by rw [HXL.out]; exact hE
                        have HE' := Lib.hid hE'
                        have hpr := look_bad w8 gC gl ys HPk.out i hiy hy1000 M hE
                        obtain ⟨E, hEe⟩ : ∃ E, E = takeE ys[i].l M := ⟨_, rfl⟩
                        rw [← hEe] at hpr
                        have HEe := Lib.hid hEe
                        have HPr := Lib.hid hpr
                        clear hE hE' hpr hEe
                        go_wp2_with fail
                        refine HPr.out.mono ?_
                        rintro e w9 ⟨rfl, hb9⟩
                        have H199 := Lib.hid (H198.out.below hb9 H198.out.lt)
                        have H209 := Lib.hid (H208.out.below hb9 H208.out.lt)
                        have H239 := Lib.hid (H238.out.below hb9 H238.out.lt)
                        have H189 := Lib.hid (H188.out.below hb9 H188.out.lt)
                        have HXo9 := Lib.hid (HXo8.out.below hb9 HXo8.out.lt)
                        have HXa9 := Lib.hid (HXa.out.below hb9 (Nat.le_refl _))
                        have HB9 := Lib.hid hb9
                        have hs9 := hb9.size
                        clear hb9 HPr
                        go_upto_region 41 with (refine wpList_store_piece rfl 32 (.tmp 19) (.tmp 197) rfl g19 0 rfl (zeroOnce) rfl 32 _ [] zeroOnce [] H199.out (by simp) rfl (by rfl) (by exact sizeOnce) (onceC_one _ _ _ _ _) ?_; intro w10 hx10 hg10)
                        have K10 := Lib.hid (show Blk w10 g19 32 zeroOnce from hx10.cast (by simp))
                        have HG10 := Lib.hid hg10
                        have H1810 := Lib.hid (H189.out.grown hg10 (fun e => by injection e with e; omega))
                        have H2010 := Lib.hid (H209.out.grown hg10 (fun e => by injection e with e; omega))
                        have H2310 := Lib.hid (H239.out.grown hg10 (fun e => by injection e with e; omega))
                        have HXo10 := Lib.hid (HXo9.out.grown hg10 (fun e => by injection e with e; omega))
                        have hs10 := hg10.size
                        have hxa10 := HXa9.out.free hg10 (HFree.out x HXm.out).1
                        have HXa10 := Lib.hid hxa10
                        have c2 := HXo10.out.cell 2 (u := .int .i64 M) (by rw [HMe.out]; rfl)
                        have hrf := refTake_any w10 x hxa10 HXas.out M (by omega) (by omega)
                        unfold TakePost at hrf
                        rw [← HXCe.out, show takeE x.l M = E by rw [HXL.out]; exact HEe.out.symm] at hrf
                        have HRf := Lib.hid hrf
                        clear hx10 hg10 hrf hxa10
                        go_wp2_with (refine wpList_load_mid rfl 56 (.tmp 18) rfl g18 0 rfl XC _ H1810.out.whole Tryd.underlying56 rfl (by rw [HXl36.out]; exact sizeRLine) ?_)
                        refine HRf.out.mono ?_
                        rintro e w11 ⟨hno11, -, hb11⟩
                        have hno12 := hno11 (by rw [HEe.out]; exact HE.out)
                        subst hno12
                        have H2011 := Lib.hid (H2010.out.below hb11 H2010.out.lt)
                        have H2311 := Lib.hid (H2310.out.below hb11 H2310.out.lt)
                        have K11 := Lib.hid (K10.out.below hb11 K10.out.lt)
                        have HB11' := Lib.hid hb11
                        have hs11 := hb11.size
                        clear hno11 hb11 HRf
                        go_wp2_with (refine wpList_store_piece rfl 38 (.tmp 20) (.tmp 204) rfl g20 0 rfl zeroOnce rfl 38 _ [] zeroOnce [] H2011.out (by simp) rfl rfl sizeROnce (onceC_one _ _ _ _ _) ?_; intro w12 hx12 hg12)
                        go_meet
                        case rel =>
                          refine ⟨rfl, E, ys, ls[i], 0, List.replicate 32 0#8, [], 0, 0, 0, none, none, none, rfl, rfl, ?_⟩
                          have F9 : Frm w9 w12 [g19, g20, g23] := (((Frm.refl w9 _).grown HG10.out (by simp)).below HB11'.out (Nat.le_refl _)).grown hg12 (by simp)
                          have k20 : Blk w12 g20 38 zeroOnce := hx12.cast (by simp)
                          have k23 : Blk w12 g23 56 ls[i].cells := by rw [← HXe.out, ← HXCe.out]; exact H2311.out.grown hg12 (fun e => by injection e with e; omega)
                          have k19 := K11.out.grown hg12 (fun e => by injection e with e; omega)
                          have k20' := k20
                          have hz13 : ls[i].At w12 := by
                            rw [← HXe.out]
                            refine HXa9.out.frm F9 (fun q hq => ?_)
                            obtain ⟨f1, f2, f3⟩ := HFree.out x HXm.out
                            simp only [List.mem_cons, List.not_mem_nil, or_false] at hq
                            rcases hq with rfl | rfl | rfl <;> assumption
                          exact cutP_zero (S := []) HP8.out HB8.out hil HXo8.out (Typed.of H199.out (by decide) (by decide) (by decide)) (Typed.of H209.out (by decide) (by decide) (by decide)) (Typed.of H239.out (by decide) (by decide) (by decide)) (by omega) htg hgo19 hg1920 hg2023 hgt HFree.out (HPk.out.below HB9.out) HYl.out (fun h => (HP8.out.eq i h hil).symm) (fun k h h2 _ => HP8.out.eq k h h2) HP8.out.gms HP8.out.hpb HP8.out.sep ((Frm.refl w8 []).below HB9.out (Nat.le_refl _)) (fun q hq => by cases hq) F9 k19 k20' k23 hz13 (fun o ho => ho) (.inl rfl) rfl (by have := HAs.out _ (List.getElem_mem hil); omega)
                  as_aux_lemma =>
                    have hrf := refJump_any w8 x HXa.out M hn0 hn1
                    rw [← HXCe.out] at hrf
                    have HRf := Lib.hid hrf
                    clear hrf
                    have hk0 : (kd == 0) = false := by simp [h0]
                    have hk1 : (kd == 1) = false := by simp [h1]
                    have hk2 : (kd == 2) = false := by simp [h2]
                    go_upto_region 30 with fail
                    clear hk0 hk1 hk2 h0 h1 h2 c0
                    go_wp2_with (refine wpList_load_mid rfl 56 (.tmp 18) rfl g18 0 rfl XC _ H188.out.whole Tryd.underlying56 rfl (by rw [HXl36.out]; exact sizeRLine) ?_)
                    refine HRf.out.mono ?_
                    rintro e w9 ⟨z, rfl, hzl, hzat, hzs, hzA, hza, hb9⟩
                    obtain ⟨ZC, hZC⟩ : ∃ ZC, ZC = z.cells := ⟨_, rfl⟩
                    have HZC := Lib.hid hZC
                    have HZ36 := Lib.hid (show ZC.length = 36 by rw [hZC]; exact lineR_len hzat.ok.len)
                    have HZC1 := Lib.hid (show ∀ u ∈ ZC, u.oneCell' = true by rw [hZC]; exact lineR_one rfl rfl)
                    rw [← hZC]
                    have H199 := Lib.hid (H198.out.below hb9 H198.out.lt)
                    have H209 := Lib.hid (H208.out.below hb9 H208.out.lt)
                    have H239 := Lib.hid (H238.out.below hb9 H238.out.lt)
                    have HXo9 := Lib.hid (HXo8.out.below hb9 HXo8.out.lt)
                    have HP9 := Lib.hid (HP8.out.below hb9)
                    have HB9 := Lib.hid hb9
                    have hs9 := hb9.size
                    have HZL' := Lib.hid hzl
                    have HZAT' := Lib.hid hzat
                    have HZS' := Lib.hid hzs
                    have HZA1' := Lib.hid hzA
                    have HZA' := Lib.hid hza
                    clear hb9 hzl hzat hzs hzA hza hZC HRf
                    go_upto_region 31 with (refine wpList_store_piece rfl 56 (.tmp 23) (.tmp 142) rfl g23 0 rfl ZC rfl 56 _ [] XC [] H239.out (by simp) rfl (by rw [HZ36.out, HXl36.out]) (by rw [HZ36.out]; exact sizeRLine) HZC1.out ?_; intro w10 hx10 hg10)
                    have K10 := Lib.hid (show Blk w10 g23 56 z.cells by rw [← HZC.out]; exact hx10.cast (by simp))
                    have HG10 := Lib.hid hg10
                    have hs10 := hg10.size
                    have H1910 := Lib.hid (H199.out.grown hg10 (fun e => by injection e with e; omega))
                    have H2010 := Lib.hid (H209.out.grown hg10 (fun e => by injection e with e; omega))
                    have HXo10 := Lib.hid (HXo9.out.grown hg10 (fun e => by injection e with e; omega))
                    have hL9 : w9.heap[g23]? = some (.cells XC.toArray 56 (0, 0)) := H239.out
                    have HC10 := Lib.hid ((HP9.out.ch.at_ hiy).typed hL9 (by decide) (by decide) (by decide) hg10)
                    have hFz : ∀ q, Free q x → Free q z := fun q f => f.sub HZS'.out HZA1'.out HZA'.out (by rw [HZL'.out]; exact jumpL_asked _ _)
                    have HFz := Lib.hid hFz
                    have hz10 : z.At w10 := HZAT'.out.free hg10 (hFz g23 (HFree.out x HXm.out).2.2)
                    have HZ10 := Lib.hid hz10
                    have hzask : z.l.asked.length ≤ j + 1 := by
                      have h5 : z.l.asked = x.l.asked := by rw [HZL'.out]; exact jumpL_asked _ _
                      rw [h5]; have := HAs.out x HXm.out; omega
                    have HZask := Lib.hid hzask
                    have c1 := HXo10.out.cell 1 (u := .int .i64 (i : Int)) (by rw [HIe.out]; rfl)
                    have c2 := HXo10.out.cell 2 (u := .int .i64 M) (by rw [HMe.out]; rfl)
                    have hjl : jumpB x.l M = jumpB ys[i].l M := by rw [HXL.out]
                    rw [hjl]
                    clear hx10 hg10 hL9 hFz hz10 hzask hjl
                    cases hjb : jumpB ys[i].l M with
                    | false =>
                      have hjn := jump_no w10 gC gl ys HC10.out i hiy hy1000 M hjb
                      have HJn := Lib.hid hjn
                      have HJb := Lib.hid hjb
                      clear hjn hjb
                      go_wp2_with fail
                      refine HJn.out.mono ?_
                      rintro e w' ⟨rfl, rfl⟩
                      go_wp2_with fail
                      go_meet
                      case rel =>
                        refine ⟨rfl, 0, ys, z, 0, List.replicate 32 0#8, [], 0, 0, 0, none, none, none, rfl, rfl, ?_⟩
                        have hzl2 : z.l = ys[i].l := by rw [HZL'.out, HXL.out]; unfold jumpL; rw [HJb.out]; rfl
                        exact cutP_zero (S := []) HP8.out HB8.out hil HXo8.out (Typed.of H199.out (by decide) (by decide) (by decide)) (Typed.of H209.out (by decide) (by decide) (by decide)) (Typed.of H239.out (by decide) (by decide) (by decide)) (by omega) htg hgo19 hg1920 hg2023 hgt HFree.out (HPk.out.below HB9.out) HYl.out (fun h => hzl2.symm) (fun k h h2 _ => HP8.out.eq k h h2) HP8.out.gms HP8.out.hpb HP8.out.sep ((Frm.refl w8 []).below HB9.out (Nat.le_refl _)) (fun q hq => by cases hq) ((Frm.refl w9 _).grown HG10.out (by simp)) H1910.out H2010.out K10.out HZ10.out (fun o ho => by rw [← HXe.out]; exact HZS'.out o ho) (by rw [← HXe.out]; exact HZA1'.out) (by rw [← HXe.out]; exact HZA'.out) HZask.out
                    | true =>
                      have hjn := jump_yes w10 gC gl ys HC10.out i hiy hy1000 M hjb
                      have HJn := Lib.hid hjn
                      have HJb := Lib.hid hjb
                      clear hjn hjb
                      go_wp2_with fail
                      refine HJn.out.mono ?_
                      rintro e w11 ⟨rfl, y, hyl, hC11, hyh, hyg, htw⟩
                      have HYl2 := Lib.hid hyl
                      have HC11 := Lib.hid hC11
                      have HYh := Lib.hid hyh
                      have HYg := Lib.hid hyg
                      have HTw := Lib.hid htw
                      clear hyl hC11 hyh hyg htw HJn
                      go_wp2_with fail
                      go_meet
                      case rel =>
                        refine ⟨rfl, 0, ys.set i y, z, 0, List.replicate 32 0#8, [], 0, 0, 0, none, none, none, rfl, rfl, ?_⟩
                        obtain ⟨es, ck, hob⟩ := (HC10.out.held _ (List.getElem_mem hiy)).map.obj
                        obtain ⟨es8, ck8, hob8⟩ := (HPk.out.held _ (List.getElem_mem hiy)).map.obj
                        have nm : ∀ (q : Nat) (T : TypeId) (cs : List Value), Blk w10 q T cs → q ≠ ys[i].gm := fun q T cs hb e => by
                          have h : w10.heap[q]? = some (.cells cs.toArray T (0, 0)) := hb
                          rw [e, hob] at h; cases h
                        have kp : ∀ (q : Nat) (T : TypeId) (cs : List Value), Blk w10 q T cs → q ≠ gl → Blk w11 q T cs := fun q T cs hb hne => (HTw.out.block q hb.lt hne (nm q T cs hb)).trans hb
                        have F8 : Frm w8 w11 [g23, gl, ys[i].gm] := ((((Frm.refl w8 _).below HB9.out (Nat.le_refl _)).grown HG10.out (by simp)).two HTw.out (by simp) (by simp))
                        have h19 := kp g19 _ _ H1910.out (by omega)
                        have h20 := kp g20 _ _ H2010.out (by omega)
                        have h23 := kp g23 _ _ K10.out (by omega)
                        have hgO : gO ≠ ys[i].gm := nm gO _ _ HXo10.out
                        have hgg : g ≠ ys[i].gm := fun e => by
                          have h : w8.heap[g]? = some (.cells _ 56 (0, 0)) := HP8.out.lines
                          rw [e, hob8] at h; cases h
                        have hfm : ∀ x ∈ ls, Free ys[i].gm x := fun x hx => Free.of_map (HP8.out.at_ x hx) hob8
                        have hfg : ∀ x ∈ ls, Free gl x := fun x hx => Free.of_blk (HP8.out.at_ x hx) HPk.out.lines (by decide) (HP8.out.farh x hx) (HP8.out.fara x hx) hglt
                        have hz11 : z.At w11 := HZ10.out.frm (S := [gl, ys[i].gm]) ((Frm.refl w10 _).two HTw.out (by simp) (by simp)) (fun q hq => by
                          simp only [List.mem_cons, List.not_mem_nil, or_false] at hq
                          rcases hq with rfl | rfl
                          · exact HFz.out _ (hfg x HXm.out)
                          · exact HFz.out _ (hfm x HXm.out))
                        exact cutP_zero (S := [g23, gl, ys[i].gm]) HP8.out HB8.out hil HXo8.out (Typed.of h19 (by decide) (by decide) (by decide)) (Typed.of h20 (by decide) (by decide) (by decide)) (Typed.of h23 (by decide) (by decide) (by decide)) (by omega) htg hgo19 hg1920 hg2023 hgt HFree.out HC11.out (by rw [List.length_set]; exact HYl.out) (fun h => by rw [List.getElem_set_self, HYl2.out, HZL'.out, HXL.out]) (fun k h h2 hk => by
                          rw [List.getElem_set_ne (fun e => hk e.symm)]
                          exact HP8.out.eq k (by rw [List.length_set] at h; exact h) h2) (fun x hx => by
                          rcases List.mem_or_eq_of_mem_set hx with h1 | rfl
                          · exact HP8.out.gms x h1
                          · rw [HYg.out]; exact HP8.out.gms _ (List.getElem_mem hiy)) (fun x hx q hq => by
                          rcases List.mem_or_eq_of_mem_set hx with h1 | rfl
                          · exact HP8.out.hpb x h1 q hq
                          · rw [HYh.out] at hq; cases hq) (fun x hx o ho y' hy' => by
                          rcases List.mem_or_eq_of_mem_set hy' with h1 | rfl
                          · exact HP8.out.sep x hx o ho y' h1
                          · rw [HYh.out]; simp) F8 (fun q hq => by
                          simp only [List.mem_cons, List.not_mem_nil, or_false] at hq
                          rcases hq with rfl | rfl | rfl
                          · exact ⟨by omega, by omega, by omega, fun x hx => (HFree.out x hx).2.2⟩
                          · exact ⟨hwgl, by omega, hggl, hfg⟩
                          · exact ⟨HP8.out.gms _ (List.getElem_mem hiy), fun e => hgO e.symm, fun e => hgg e.symm, hfm⟩) (Frm.refl w11 _) h19 h20 h23 hz11 (fun o ho => by rw [← HXe.out]; exact HZS'.out o ho) (by rw [← HXe.out]; exact HZA1'.out) (by rw [← HXe.out]; exact HZA'.out) HZask.out
                case rest =>
                  as_aux_lemma =>
                    obtain ⟨h55, E, zs, z, m, key, ns, q, d1, d2, A1, A2, row, h21, h22, hcp⟩ := hcut
                    subst h55; subst h21; subst h22
                    clear c0 c1 c2
                    have HCp := Lib.hid hcp
                    have hiz : i < zs.length := by rw [hcp.zlen]; exact hiN
                    have HZc := Lib.hid (show z.cells.length = 36 from lineR_len hcp.zat.ok.len)
                    have HZ1 := Lib.hid (show ∀ u ∈ z.cells, u.oneCell' = true from lineR_one rfl rfl)
                    have hsp := rl_split hcp.at_ spare i hil
                    have HSp := Lib.hid hsp
                    have c1 := hcp.bO.cell 1 (u := .int .i64 (i : Int)) (by rw [HIe.out]; rfl)
                    have hlt23 := hcp.b23.lt
                    have hlt19 := hcp.b19.lt
                    have hlt20 := hcp.b20.lt
                    have hgl := hcp.lines.lt
                    obtain ⟨ZC, hZC⟩ : ∃ ZC, ZC = z.cells := ⟨_, rfl⟩
                    rw [← hZC] at HZc HZ1
                    have H23 := Lib.hid (show Blk wc g23 56 ZC by rw [hZC]; exact hcp.b23)
                    have HZCe := Lib.hid hZC
                    clear hcp hsp hZC
                    go_upto_region 43 with (first
                      | (refine wpList_load_mid rfl 56 (.tmp 23) rfl g23 0 rfl ZC _ H23.out.whole Tryd.underlying56 rfl (by rw [HZc.out]; exact sizeRLine) ?_)
                      | (refine wpList_store_piece rfl 56 (.tmp 211) (.tmp 210) rfl g (i * 36) rfl ZC rfl 56 _ ((ls.take i).flatMap RL.cells) ls[i].cells ((ls.drop (i + 1)).flatMap RL.cells ++ spare) HCp.out.lines HSp.out.1 HSp.out.2 (by rw [HZc.out]; exact lineR_len (HCp.out.at_ _ (List.getElem_mem hil)).ok.len) (by rw [HZc.out]; exact sizeRLine) HZ1.out ?_; intro wA hxA hgA))
                    have H19A := Lib.hid (HCp.out.b19.grown hgA (fun e => by injection e with e; omega))
                    have H20A := Lib.hid (HCp.out.b20.grown hgA (fun e => by injection e with e; omega))
                    have HOA := Lib.hid (HCp.out.bO.grown hgA (fun e => by injection e with e; omega))
                    have H23A := Lib.hid (H23.out.grown hgA (fun e => by injection e with e; omega))
                    have HLx := Lib.hid (show wc.heap[g]? = some (.cells (ls.flatMap RL.cells ++ spare).toArray 56 (0, 0)) from HCp.out.lines)
                    have HCA := Lib.hid (show ChAt wA gC gl zs from HCp.out.ch.typed HLx.out (by decide) (by decide) (by decide) hgA)
                    have HR1 := Lib.hid (rd_typed HCp.out.r1 (Nat.le_refl _) HLx.out (by decide) HCp.out.t1 hgA)
                    have HR2 := Lib.hid (rd_typed HCp.out.r2 (Nat.le_refl _) HLx.out (by decide) HCp.out.t2 hgA)
                    have hzA := hgA.size
                    have HGA := Lib.hid hgA
                    have HxA := Lib.hid hxA
                    obtain ⟨G19, hG19⟩ : ∃ G19, G19 = onceC m key (.slice A1 q d1) := ⟨_, rfl⟩
                    obtain ⟨G20, hG20⟩ : ∃ G20, G20 = onceC m key (.slice A2 q d2) := ⟨_, rfl⟩
                    have hi1 : (Tryd.prog.info? 32).map (·.size) = some G19.length := by rw [hG19, onceC_len _ _ _ HCp.out.klen]; exact sizeOnce
                    have hi2 : (Tryd.prog.info? 38).map (·.size) = some G20.length := by rw [hG20, onceC_len _ _ _ HCp.out.klen]; exact sizeROnce
                    have hu1 := Tryd.underlying32
                    have hu2 := Tryd.underlying38
                    have hsm := same_gen wA.drew m key ns HCp.out.klen q HCp.out.nlen wc.heap.size wc.heap.size d1 d2 A1 A2 (HR1.out.below ((Below.refl _ wA).drew.mono hzA)) hzA (HR2.out.below ((Below.refl _ wA).drew.mono hzA)) hzA
                    rw [← hG19, ← hG20] at hsm
                    have HSm := Lib.hid hsm
                    have HG19 := Lib.hid hG19
                    have H19B := Lib.hid (show Blk wA g19 32 G19 by rw [hG19]; exact H19A.out)
                    have H20B := Lib.hid (show Blk wA g20 38 G20 by rw [hG20]; exact H20A.out)
                    obtain ⟨PL, hPL⟩ : ∃ PL, PL = z.l.place := ⟨_, rfl⟩
                    obtain ⟨zA, hzAe⟩ : ∃ zA, zA = z.hA := ⟨_, rfl⟩
                    obtain ⟨zn, hzne⟩ : ∃ zn, zn = z.rs.length := ⟨_, rfl⟩
                    obtain ⟨zc, hzce⟩ : ∃ zc, zc = z.hc := ⟨_, rfl⟩
                    have hzl := HCp.out.zat.ok.len
                    have HKeep := Lib.hid (show ∀ W' : World, Below wA.heap.size wA W' → W'.rangeAt g19 0 G19 ∧ W'.rangeAt g20 0 G20 ∧ W'.cell? ⟨gO, 1, none⟩ = some (.int .i64 (i : Int)) ∧ W'.cell? ⟨g23, 32, none⟩ = some (.int .i64 PL) ∧ W'.cell? ⟨g23, 33, none⟩ = some (.slice zA zn zc) from fun W' hb =>
                      ⟨(H19B.out.below hb H19B.out.lt).whole, (H20B.out.below hb H20B.out.lt).whole, (HOA.out.below hb HOA.out.lt).cell 1 (by rw [HIe.out]; rfl), (H23A.out.below hb H23A.out.lt).cell 32 (by rw [HZCe.out, hPL]; exact lineR_32 hzl), (H23A.out.below hb H23A.out.lt).cell 33 (by rw [HZCe.out, hzAe, hzne, hzce]; exact lineR_33 hzl)⟩)
                    have hk43 := HKeep.out _ ((Below.refl _ wA).drew)
                    have hez := HCp.out.eqz hiz
                    have hz1000 : zs.length ≤ 1000 := by rw [HCp.out.zlen]; omega
                    have HPl := Lib.hid (show ∀ W, Below wA.heap.size wA W → Calls Tryd.prog 16 #[.pointer (some ⟨gC, 0, none⟩), .int .i64 (i : Int)] W fun e w' => e = .returned (.int .i64 PL) ∧ W = w' from fun W hb => by
                      have h := place_any W gC gl zs (HCA.out.below hb) i hiz hz1000
                      rw [hez, ← hPL] at h
                      exact h)
                    have hhl : zs[i].hp.length = zn := by
                      have h1 := congrArg List.length (HCp.out.ch.ok _ (List.getElem_mem hiz)).fst
                      have h2 := congrArg List.length HCp.out.zat.fst
                      rw [List.length_map] at h1 h2
                      rw [hzne, h1, h2, hez]
                    have hzn64 : zn ≤ 64 := by
                      have h2 := congrArg List.length HCp.out.zat.fst
                      rw [List.length_map] at h2
                      rw [hzne, h2]; exact HCp.out.zat.ok.held_len
                    have HHl := Lib.hid (show ∀ W, Below wA.heap.size wA W → Calls Tryd.prog 15 #[.pointer (some ⟨gC, 0, none⟩), .int .i64 (i : Int)] W fun e w' => e = .returned (.int .i64 (zn : Int)) ∧ W = w' from fun W hb => by
                      have h := held_any W gC gl zs (HCA.out.below hb) i hiz hz1000
                      rw [hhl] at h
                      exact h)
                    have hzn : ((zn : Int) > 64) = False := by simp; omega
                    have hzn2 : decide (64 < (zn : Int)) = false := by simp; omega
                    clear hxA hgA hG19 hG20 hsm hPL hzAe hzne hzce hzl hez hhl c1
                    refine wp_region_noPanic ?_
                    refine wp_region_held_drew (S := fun w' => w'.rangeAt g19 0 G19 ∧ w'.rangeAt g20 0 G20 ∧ w'.cell? ⟨gO, 1, none⟩ = some (.int .i64 (i : Int)) ∧ w'.cell? ⟨g23, 32, none⟩ = some (.int .i64 PL) ∧ w'.cell? ⟨g23, 33, none⟩ = some (.slice zA zn zc)) (by kernel_rfl) hk43 (fun hS => ?_)
                    refine wpAnyH_take (i := 0) (oi := { dst := some 212, op := _, type := _, pos := _, after := _, guard := _ }) (v := .agg G19.toArray) rfl (by kernel_rfl) (by kernel_rfl) (by kernel_rfl) (fun _ _ _ h => h) (yieldsIf_load_mid (by rfl) 32 (.tmp 19) rfl g19 0 rfl G19 _ (fun _ h => h.1) hu1 rfl hi1) hS ?_
                    try simp only [Act.put, List.setIfInBounds_toArray, List.set_cons_zero, List.set_cons_succ]
                    refine wpAnyH_take (i := 1) (oi := { dst := some 213, op := _, type := _, pos := _, after := _, guard := _ }) (v := .agg G20.toArray) rfl (by kernel_rfl) (by kernel_rfl) (by kernel_rfl) (fun _ _ _ h => h) (yieldsIf_load_mid (by rfl) 38 (.tmp 20) rfl g20 0 rfl G20 _ (fun _ h => h.2.1) hu2 rfl hi2) hS ?_
                    try simp only [Act.put, List.setIfInBounds_toArray, List.set_cons_zero, List.set_cons_succ]
                    refine wpAnyH_ready (rs := [2]) (by kernel_rfl) (by simp) (AllReadyH.cons (o := { dst := some 214, op := _, type := _, pos := _, after := _, guard := _ }) rfl (fun K' hK => ?_) AllReadyH.nil)
                    go_simp
                    go_at_call 12
                    refine HSm.out.mono ?_
                    rintro e wB ⟨rfl, hbB⟩
                    have HQ := Lib.hid (show Below wA.heap.size wA wB from (Below.refl _ wA).drew.trans hbB)
                    clear hbB
                    refine hK.out _ _ (HKeep.out _ HQ.out) (fun hS => ?_)
                    clear hK K'
                    try simp only [Act.put, List.setIfInBounds_toArray, List.set_cons_zero, List.set_cons_succ]
                    refine wpAnyH_take (i := 3) (oi := { dst := some 215, op := _, type := _, pos := _, after := _, guard := _ }) (v := .bool false) rfl (by kernel_rfl) (by kernel_rfl) (by kernel_rfl) (fun _ _ _ h => h) (Or.inl ⟨by rfl, ?_⟩) hS ?_
                    · intro w' hw'
                      go_simp
                    try simp only [Act.put, List.setIfInBounds_toArray, List.set_cons_zero, List.set_cons_succ]
                    refine wpAnyH_take (i := 4) (oi := { dst := some 216, op := _, type := _, pos := _, after := _, guard := _ }) (v := .bool false) rfl (by kernel_rfl) (by kernel_rfl) (by kernel_rfl) (fun _ _ _ h => h) (Or.inl ⟨by rfl, ?_⟩) hS ?_
                    · intro w' hw'
                      go_simp
                    try simp only [Act.put, List.setIfInBounds_toArray, List.set_cons_zero, List.set_cons_succ]
                    refine wpAnyH_take (i := 5) (oi := { dst := some 217, op := _, type := _, pos := _, after := _, guard := _ }) (v := (errV E)) rfl (by kernel_rfl) (by kernel_rfl) (by kernel_rfl) (fun _ _ _ h => h) (Or.inl ⟨by rfl, ?_⟩) hS ?_
                    · intro w' hw'
                      go_simp
                    try simp only [Act.put, List.setIfInBounds_toArray, List.set_cons_zero, List.set_cons_succ]
                    refine wpAnyH_take (i := 7) (oi := { dst := some 219, op := _, type := _, pos := _, after := _, guard := _ }) (v := .int .i64 (E : Int)) rfl (by kernel_rfl) (by kernel_rfl) (by kernel_rfl) (fun _ _ _ h => h) (Or.inl ⟨by rfl, ?_⟩) hS ?_
                    · intro w' hw'
                      go_simp
                    try simp only [Act.put, List.setIfInBounds_toArray, List.set_cons_zero, List.set_cons_succ]
                    refine wpAnyH_ready (rs := [6]) (by kernel_rfl) (by simp) (AllReadyH.cons (o := { dst := some 218, op := _, type := _, pos := _, after := _, guard := _ }) rfl (fun K' hK => ?_) AllReadyH.nil)
                    go_simp
                    go_at_call 19
                    refine (num_any E _).mono ?_
                    rintro e w' ⟨rfl, rfl⟩
                    refine hK.out _ _ (HKeep.out _ HQ.out) (fun hS => ?_)
                    clear hK K'
                    try simp only [Act.put, List.setIfInBounds_toArray, List.set_cons_zero, List.set_cons_succ]
                    refine wpAnyH_take (i := 8) (oi := { dst := some 220, op := _, type := _, pos := _, after := _, guard := _ }) (v := .bool false) rfl (by kernel_rfl) (by kernel_rfl) (by kernel_rfl) (fun _ _ _ h => h) (Or.inl ⟨by rfl, ?_⟩) hS ?_
                    · intro w' hw'
                      go_simp
                    try simp only [Act.put, List.setIfInBounds_toArray, List.set_cons_zero, List.set_cons_succ]
                    refine wpAnyH_take (i := 9) (oi := { dst := some 221, op := _, type := _, pos := _, after := _, guard := _ }) (v := .bool false) rfl (by kernel_rfl) (by kernel_rfl) (by kernel_rfl) (fun _ _ _ h => h) (Or.inl ⟨by rfl, ?_⟩) hS ?_
                    · intro w' hw'
                      go_simp
                    try simp only [Act.put, List.setIfInBounds_toArray, List.set_cons_zero, List.set_cons_succ]
                    refine wpAnyH_take (i := 10) (oi := { dst := some 222, op := _, type := _, pos := _, after := _, guard := _ }) (v := .bool false) rfl (by kernel_rfl) (by kernel_rfl) (by kernel_rfl) (fun _ _ _ h => h) (Or.inl ⟨by rfl, ?_⟩) hS ?_
                    · intro w' hw'
                      go_simp
                    try simp only [Act.put, List.setIfInBounds_toArray, List.set_cons_zero, List.set_cons_succ]
                    refine wpAnyH_take (i := 11) (oi := { dst := some 223, op := _, type := _, pos := _, after := _, guard := _ }) (v := .pointer (some ⟨gC, 0, none⟩)) rfl (by kernel_rfl) (by kernel_rfl) (by kernel_rfl) (fun _ _ _ h => h) (Or.inl ⟨by rfl, ?_⟩) hS ?_
                    · intro w' hw'
                      go_simp
                    try simp only [Act.put, List.setIfInBounds_toArray, List.set_cons_zero, List.set_cons_succ]
                    refine wpAnyH_take (i := 12) (oi := { dst := some 224, op := _, type := _, pos := _, after := _, guard := _ }) (v := .pointer (some ⟨gO, 1, none⟩)) rfl (by kernel_rfl) (by kernel_rfl) (by kernel_rfl) (fun _ _ _ h => h) (Or.inl ⟨by rfl, ?_⟩) hS ?_
                    · intro w' hw'
                      obtain ⟨-, -, s1, s2, s3⟩ := hw'
                      go_simp
                    try simp only [Act.put, List.setIfInBounds_toArray, List.set_cons_zero, List.set_cons_succ]
                    refine wpAnyH_take (i := 13) (oi := { dst := some 225, op := _, type := _, pos := _, after := _, guard := _ }) (v := .int .i64 (i : Int)) rfl (by kernel_rfl) (by kernel_rfl) (by kernel_rfl) (fun _ _ _ h => h) (Or.inl ⟨by rfl, ?_⟩) hS ?_
                    · intro w' hw'
                      obtain ⟨-, -, s1, s2, s3⟩ := hw'
                      go_simp
                    try simp only [Act.put, List.setIfInBounds_toArray, List.set_cons_zero, List.set_cons_succ]
                    refine wpAnyH_take (i := 15) (oi := { dst := some 227, op := _, type := _, pos := _, after := _, guard := _ }) (v := .pointer (some ⟨g23, 32, none⟩)) rfl (by kernel_rfl) (by kernel_rfl) (by kernel_rfl) (fun _ _ _ h => h) (Or.inl ⟨by rfl, ?_⟩) hS ?_
                    · intro w' hw'
                      obtain ⟨-, -, s1, s2, s3⟩ := hw'
                      go_simp
                    try simp only [Act.put, List.setIfInBounds_toArray, List.set_cons_zero, List.set_cons_succ]
                    refine wpAnyH_take (i := 16) (oi := { dst := some 228, op := _, type := _, pos := _, after := _, guard := _ }) (v := .int .i64 PL) rfl (by kernel_rfl) (by kernel_rfl) (by kernel_rfl) (fun _ _ _ h => h) (Or.inl ⟨by rfl, ?_⟩) hS ?_
                    · intro w' hw'
                      obtain ⟨-, -, s1, s2, s3⟩ := hw'
                      go_simp
                    try simp only [Act.put, List.setIfInBounds_toArray, List.set_cons_zero, List.set_cons_succ]
                    refine wpAnyH_ready (rs := [14]) (by kernel_rfl) (by simp) (AllReadyH.cons (o := { dst := some 226, op := _, type := _, pos := _, after := _, guard := _ }) rfl (fun K' hK => ?_) AllReadyH.nil)
                    go_simp
                    go_at_call 16
                    refine (HPl.out _ HQ.out).mono ?_
                    rintro e w' ⟨rfl, rfl⟩
                    refine hK.out _ _ (HKeep.out _ HQ.out) (fun hS => ?_)
                    clear hK K'
                    try simp only [Act.put, List.setIfInBounds_toArray, List.set_cons_zero, List.set_cons_succ]
                    refine wpAnyH_take (i := 17) (oi := { dst := some 229, op := _, type := _, pos := _, after := _, guard := _ }) (v := .bool false) rfl (by kernel_rfl) (by kernel_rfl) (by kernel_rfl) (fun _ _ _ h => h) (Or.inl ⟨by rfl, ?_⟩) hS ?_
                    · intro w' hw'
                      go_simp
                    try simp only [Act.put, List.setIfInBounds_toArray, List.set_cons_zero, List.set_cons_succ]
                    refine wpAnyH_take (i := 18) (oi := { dst := some 230, op := _, type := _, pos := _, after := _, guard := _ }) (v := .bool false) rfl (by kernel_rfl) (by kernel_rfl) (by kernel_rfl) (fun _ _ _ h => h) (Or.inl ⟨by rfl, ?_⟩) hS ?_
                    · intro w' hw'
                      go_simp
                    try simp only [Act.put, List.setIfInBounds_toArray, List.set_cons_zero, List.set_cons_succ]
                    refine wpAnyH_take (i := 19) (oi := { dst := some 231, op := _, type := _, pos := _, after := _, guard := _ }) (v := .bool false) rfl (by kernel_rfl) (by kernel_rfl) (by kernel_rfl) (fun _ _ _ h => h) (Or.inl ⟨by rfl, ?_⟩) hS ?_
                    · intro w' hw'
                      go_simp
                    try simp only [Act.put, List.setIfInBounds_toArray, List.set_cons_zero, List.set_cons_succ]
                    refine wpAnyH_take (i := 20) (oi := { dst := some 232, op := _, type := _, pos := _, after := _, guard := _ }) (v := .pointer (some ⟨gC, 0, none⟩)) rfl (by kernel_rfl) (by kernel_rfl) (by kernel_rfl) (fun _ _ _ h => h) (Or.inl ⟨by rfl, ?_⟩) hS ?_
                    · intro w' hw'
                      go_simp
                    try simp only [Act.put, List.setIfInBounds_toArray, List.set_cons_zero, List.set_cons_succ]
                    refine wpAnyH_take (i := 21) (oi := { dst := some 233, op := _, type := _, pos := _, after := _, guard := _ }) (v := .pointer (some ⟨gO, 1, none⟩)) rfl (by kernel_rfl) (by kernel_rfl) (by kernel_rfl) (fun _ _ _ h => h) (Or.inl ⟨by rfl, ?_⟩) hS ?_
                    · intro w' hw'
                      obtain ⟨-, -, s1, s2, s3⟩ := hw'
                      go_simp
                    try simp only [Act.put, List.setIfInBounds_toArray, List.set_cons_zero, List.set_cons_succ]
                    refine wpAnyH_take (i := 22) (oi := { dst := some 234, op := _, type := _, pos := _, after := _, guard := _ }) (v := .int .i64 (i : Int)) rfl (by kernel_rfl) (by kernel_rfl) (by kernel_rfl) (fun _ _ _ h => h) (Or.inl ⟨by rfl, ?_⟩) hS ?_
                    · intro w' hw'
                      obtain ⟨-, -, s1, s2, s3⟩ := hw'
                      go_simp
                    try simp only [Act.put, List.setIfInBounds_toArray, List.set_cons_zero, List.set_cons_succ]
                    refine wpAnyH_take (i := 24) (oi := { dst := some 236, op := _, type := _, pos := _, after := _, guard := _ }) (v := .pointer (some ⟨g23, 33, none⟩)) rfl (by kernel_rfl) (by kernel_rfl) (by kernel_rfl) (fun _ _ _ h => h) (Or.inl ⟨by rfl, ?_⟩) hS ?_
                    · intro w' hw'
                      obtain ⟨-, -, s1, s2, s3⟩ := hw'
                      go_simp
                    try simp only [Act.put, List.setIfInBounds_toArray, List.set_cons_zero, List.set_cons_succ]
                    refine wpAnyH_take (i := 25) (oi := { dst := some 237, op := _, type := _, pos := _, after := _, guard := _ }) (v := .slice zA zn zc) rfl (by kernel_rfl) (by kernel_rfl) (by kernel_rfl) (fun _ _ _ h => h) (Or.inl ⟨by rfl, ?_⟩) hS ?_
                    · intro w' hw'
                      obtain ⟨-, -, s1, s2, s3⟩ := hw'
                      go_simp
                    try simp only [Act.put, List.setIfInBounds_toArray, List.set_cons_zero, List.set_cons_succ]
                    refine wpAnyH_take (i := 26) (oi := { dst := some 238, op := _, type := _, pos := _, after := _, guard := _ }) (v := .int .i64 (zn : Int)) rfl (by kernel_rfl) (by kernel_rfl) (by kernel_rfl) (fun _ _ _ h => h) (Or.inl ⟨by rfl, ?_⟩) hS ?_
                    · intro w' hw'
                      go_simp
                    try simp only [Act.put, List.setIfInBounds_toArray, List.set_cons_zero, List.set_cons_succ]
                    refine wpAnyH_ready (rs := [23]) (by kernel_rfl) (by simp) (AllReadyH.cons (o := { dst := some 235, op := _, type := _, pos := _, after := _, guard := _ }) rfl (fun K' hK => ?_) AllReadyH.nil)
                    go_simp
                    go_at_call 15
                    refine (HHl.out _ HQ.out).mono ?_
                    rintro e w' ⟨rfl, rfl⟩
                    refine hK.out _ _ (HKeep.out _ HQ.out) (fun hS => ?_)
                    clear hK K'
                    try simp only [Act.put, List.setIfInBounds_toArray, List.set_cons_zero, List.set_cons_succ]
                    refine wpAnyH_take (i := 27) (oi := { dst := some 239, op := _, type := _, pos := _, after := _, guard := _ }) (v := .bool false) rfl (by kernel_rfl) (by kernel_rfl) (by kernel_rfl) (fun _ _ _ h => h) (Or.inl ⟨by rfl, ?_⟩) hS ?_
                    · intro w' hw'
                      go_simp
                    try simp only [Act.put, List.setIfInBounds_toArray, List.set_cons_zero, List.set_cons_succ]
                    refine wpAnyH_take (i := 28) (oi := { dst := some 240, op := _, type := _, pos := _, after := _, guard := _ }) (v := .bool false) rfl (by kernel_rfl) (by kernel_rfl) (by kernel_rfl) (fun _ _ _ h => h) (Or.inl ⟨by rfl, ?_⟩) hS ?_
                    · intro w' hw'
                      go_simp
                    try simp only [Act.put, List.setIfInBounds_toArray, List.set_cons_zero, List.set_cons_succ]
                    refine wpAnyH_take (i := 29) (oi := { dst := some 241, op := _, type := _, pos := _, after := _, guard := _ }) (v := .bool false) rfl (by kernel_rfl) (by kernel_rfl) (by kernel_rfl) (fun _ _ _ h => h) (Or.inl ⟨by rfl, ?_⟩) hS ?_
                    · intro w' hw'
                      go_simp
                    try simp only [Act.put, List.setIfInBounds_toArray, List.set_cons_zero, List.set_cons_succ]
                    refine wpAnyH_take (i := 30) (oi := { dst := some 242, op := _, type := _, pos := _, after := _, guard := _ }) (v := .pointer (some ⟨gC, 0, none⟩)) rfl (by kernel_rfl) (by kernel_rfl) (by kernel_rfl) (fun _ _ _ h => h) (Or.inl ⟨by rfl, ?_⟩) hS ?_
                    · intro w' hw'
                      go_simp
                    try simp only [Act.put, List.setIfInBounds_toArray, List.set_cons_zero, List.set_cons_succ]
                    refine wpAnyH_take (i := 31) (oi := { dst := some 243, op := _, type := _, pos := _, after := _, guard := _ }) (v := .pointer (some ⟨gO, 1, none⟩)) rfl (by kernel_rfl) (by kernel_rfl) (by kernel_rfl) (fun _ _ _ h => h) (Or.inl ⟨by rfl, ?_⟩) hS ?_
                    · intro w' hw'
                      obtain ⟨-, -, s1, s2, s3⟩ := hw'
                      go_simp
                    try simp only [Act.put, List.setIfInBounds_toArray, List.set_cons_zero, List.set_cons_succ]
                    refine wpAnyH_take (i := 32) (oi := { dst := some 244, op := _, type := _, pos := _, after := _, guard := _ }) (v := .int .i64 (i : Int)) rfl (by kernel_rfl) (by kernel_rfl) (by kernel_rfl) (fun _ _ _ h => h) (Or.inl ⟨by rfl, ?_⟩) hS ?_
                    · intro w' hw'
                      obtain ⟨-, -, s1, s2, s3⟩ := hw'
                      go_simp
                    try simp only [Act.put, List.setIfInBounds_toArray, List.set_cons_zero, List.set_cons_succ]
                    refine wpAnyH_ready (rs := [33]) (by kernel_rfl) (by simp) (AllReadyH.cons (o := { dst := some 245, op := _, type := _, pos := _, after := _, guard := _ }) rfl (fun K' hK => ?_) AllReadyH.nil)
                    go_simp
                    go_at_call 15
                    refine (HHl.out _ HQ.out).mono ?_
                    rintro e w' ⟨rfl, rfl⟩
                    refine hK.out _ _ (HKeep.out _ HQ.out) (fun hS => ?_)
                    clear hK K'
                    try simp only [Act.put, List.setIfInBounds_toArray, List.set_cons_zero, List.set_cons_succ]
                    refine wpAnyH_take (i := 34) (oi := { dst := some 246, op := _, type := _, pos := _, after := _, guard := _ }) (v := .bool false) rfl (by kernel_rfl) (by kernel_rfl) (by kernel_rfl) (fun _ _ _ h => h) (Or.inl ⟨by rfl, ?_⟩) hS ?_
                    · intro w' hw'
                      go_simp
                    try simp only [Act.put, List.setIfInBounds_toArray, List.set_cons_zero, List.set_cons_succ]
                    refine wpAnyH_take (i := 35) (oi := { dst := some 247, op := _, type := _, pos := _, after := _, guard := _ }) (v := .bool false) rfl (by kernel_rfl) (by kernel_rfl) (by kernel_rfl) (fun _ _ _ h => h) (Or.inl ⟨by rfl, ?_⟩) hS ?_
                    · intro w' hw'
                      go_simp
                    try simp only [Act.put, List.setIfInBounds_toArray, List.set_cons_zero, List.set_cons_succ]
                    refine wpAnyH_done (by kernel_rfl) ?_ _
                    refine NoPanic.normal ?_
                    clear hk43 hi1 hi2 hu1 hu2
                    have c33 := (H19B.out.below HQ.out H19B.out.lt).cell 33 (u := .slice A1 q d1) (by rw [HG19.out]; exact onceC_33 _ _ _ HCp.out.klen)
                    have HOv := Lib.hid (HCp.out.over wB (fun b e => by
                      obtain ⟨f1, f2, ⟨cs, f3⟩, f4, f5, f6⟩ := HCp.out.free b e
                      have hbg : b ≠ g := fun e2 => by
                        have h9 := HLx.out
                        rw [e2, h9] at f3; injection f3 with f3; injection f3 with _ hT _; exact absurd hT (by decide)
                      rw [HQ.out.block b (by omega), HGA.out.block b f2 (fun e2 => by injection e2 with e2; exact hbg e2)]) (by have := HQ.out.size; omega))
                    go_wp2_with fail
                    refine HOv.out.mono ?_
                    rintro e wD ⟨rfl, hgD⟩
                    have HGD := Lib.hid hgD
                    clear hgD c33
                    go_wp2_with fail
                    have hnx := HCp.out.next (by rw [HP5.out.len, HYl.out, HCp.out.zlen]) hil (by rw [HCp.out.zlen]; exact hN32) hgt hwg HP5.out.farh HP5.out.fara (by rw [← HZCe.out]; exact HxA.out) HGA.out HQ.out HGD.out
                    obtain ⟨hn1', hn2'⟩ := hnx
                    refine ⟨⟨j + 1, zs, ls.set i z, by go_num, by omega, HCp.out.zlen, fun y hy => ?_, hn1', hn2', by have := HGD.out.size; have := HQ.out.size; omega⟩, ?_⟩
                    · rcases List.mem_or_eq_of_mem_set hy with h1 | rfl
                      · have := HAs.out y h1; omega
                      · exact HCp.out.zask
                    · simp [intOf] <;> omega
          · obtain rfl : j = n := by omega
            clear hyl has hp hb
            go_wp2_with fail
            go_ret
            exact ⟨rfl, HB.out⟩
end Go.Proofs.YtmncihhofppkdaaDoor
