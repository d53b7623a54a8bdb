/- CONTRACT: burrowref09.TakeInfo: only whether the bytes are good. -/
import Derived.Test.YtloglpamnalmeaaRinTree
import Derived.Test.YtloglpamnalmeaaRTakeW
import Derived.Test.YtloglpamnalmeaaRefInf
import Derived.Test.YtloglpamnalmeaaTakeInf
import Derived.Test.YtloglpamnalmeaaReadProp
import Derived.Test.YtloglpamnalmeaaPack
namespace Go.Proofs.Ytloglpamnalmeaa
open Go.RowKit
set_option linter.unusedVariables false
set_option linter.unusedSimpArgs false

set_option maxRecDepth 100000 in
theorem built_rInfo (G : List (BitVec 8)) (h : G.length = 32) : Try.prog.built 64 [(0, .agg (G.map b8).toArray)] = some (infC ⟨G, 0, zero32, zero32, 0, zSig⟩ none 0 0).toArray := by
  obtain ⟨x0, x1, x2, x3, x4, x5, x6, x7, x8, x9, x10, x11, x12, x13, x14, x15, x16, x17, x18, x19, x20, x21, x22, x23, x24, x25, x26, x27, x28, x29, x30, x31, rfl⟩ := list32 h
  kernel_rfl
theorem built_zInfo : Try.prog.built 64 [] = some (zerosInfo).toArray := by kernel_rfl
set_option maxRecDepth 100000 in
set_option maxHeartbeats 4000000 in
theorem rtakeInfo_any {w : World} {B' : Nat} {A : Option Addr} {n c : Nat} {bs : List (BitVec 8)} (hr : Rd b8 w B' A bs) (hB' : B' ≤ w.heap.size) (hn : bs.length = n) (hnc : n ≤ c) (hy : n ≤ 1000000) :
    Calls Try.prog 44 #[.slice A n c] w fun e w' => Below w.heap.size w w' ∧ ∃ cs : List Value, e = .returned (.tuple #[.agg cs.toArray, .bool (goodI bs)]) ∧ cs.length = 163 ∧ ∀ u ∈ cs, u.oneCell' = true := by
  have HR := Lib.hid hr
  have HN := Lib.hid hn
  obtain ⟨s0, hs0⟩ : ∃ s : St, s = (bs, false) := ⟨_, rfl⟩
  have l0 : s0.1.length ≤ 1000000 := by rw [hs0]; show bs.length ≤ _; omega
  obtain ⟨G, hG⟩ : ∃ x, x = (pTk 32 s0).1 := ⟨_, rfl⟩
  obtain ⟨s1, hs1⟩ : ∃ x, x = (pTk 32 s0).2 := ⟨_, rfl⟩
  have l1 : s1.1.length ≤ 1000000 := by rw [hs1]; exact Nat.le_trans (pTk_le _ _) l0
  have Gl : G.length = 32 := by rw [hG]; exact pTk_len _ _
  obtain ⟨E, hE⟩ : ∃ x, x = (pNum 4 s1).1 := ⟨_, rfl⟩
  obtain ⟨s2, hs2⟩ : ∃ x, x = (pNum 4 s1).2 := ⟨_, rfl⟩
  have l2 : s2.1.length ≤ 1000000 := by rw [hs2]; exact Nat.le_trans (pNum_le _ _) l1
  have Eb : E < 4294967296 := by rw [hE]; exact Nat.lt_of_lt_of_le (beVal_lt 4 _ (tkO_len _ _)) (by decide)
  obtain ⟨L, hL⟩ : ∃ x, x = (pList pNode s2).1 := ⟨_, rfl⟩
  obtain ⟨s3, hs3⟩ : ∃ x, x = (pList pNode s2).2 := ⟨_, rfl⟩
  have l3 : s3.1.length ≤ 1000000 := by rw [hs3]; exact Nat.le_trans (pList_le pNode pNode_le _) l2
  have Lum : ∀ x ∈ L, x.um.length ≤ 300 := by rw [hL]; exact pMany_all pNode (fun x => x.um.length ≤ 300) (fun s => by have := pNode_um s; omega) _ _
  have Ll : L.length ≤ 255 := by rw [hL]; exact pList_len _ _
  obtain ⟨C, hC⟩ : ∃ x, x = (pTk 32 s3).1 := ⟨_, rfl⟩
  obtain ⟨s4, hs4⟩ : ∃ x, x = (pTk 32 s3).2 := ⟨_, rfl⟩
  have l4 : s4.1.length ≤ 1000000 := by rw [hs4]; exact Nat.le_trans (pTk_le _ _) l3
  have Cl : C.length = 32 := by rw [hC]; exact pTk_len _ _
  obtain ⟨J, hJ⟩ : ∃ x, x = (pTk 32 s4).1 := ⟨_, rfl⟩
  obtain ⟨s5, hs5⟩ : ∃ x, x = (pTk 32 s4).2 := ⟨_, rfl⟩
  have l5 : s5.1.length ≤ 1000000 := by rw [hs5]; exact Nat.le_trans (pTk_le _ _) l4
  have Jl : J.length = 32 := by rw [hJ]; exact pTk_len _ _
  obtain ⟨F, hF⟩ : ∃ x, x = (pNum 1 s5).1 := ⟨_, rfl⟩
  obtain ⟨s6, hs6⟩ : ∃ x, x = (pNum 1 s5).2 := ⟨_, rfl⟩
  have l6 : s6.1.length ≤ 1000000 := by rw [hs6]; exact Nat.le_trans (pNum_le _ _) l5
  have Fb : F < 4294967296 := by rw [hF]; exact Nat.lt_of_lt_of_le (beVal_lt 1 _ (tkO_len _ _)) (by decide)
  obtain ⟨Y, hY⟩ : ∃ x, x = (pTk 64 s6).1 := ⟨_, rfl⟩
  obtain ⟨s7, hs7⟩ : ∃ x, x = (pTk 64 s6).2 := ⟨_, rfl⟩
  have l7 : s7.1.length ≤ 1000000 := by rw [hs7]; exact Nat.le_trans (pTk_le _ _) l6
  have Yl : Y.length = 64 := by rw [hY]; exact pTk_len _ _
  have hpp : infV (bs, false) = ⟨G, E, C, J, F, Y⟩ := by
    rw [hG, hE, hC, hJ, hF, hY, hs6, hs5, hs4, hs3, hs2, hs1, hs0]
    rfl
  have hpn : infN (bs, false) = L := by rw [hL, hs2, hs1, hs0]; rfl
  have hp7 : infS7 (bs, false) = s7 := by rw [hs7, hs6, hs5, hs4, hs3, hs2, hs1, hs0]; rfl
  have hok : (⟨G, E, C, J, F, Y⟩ : InfD).Ok := by rw [← hpp]; exact infV_ok _
  have hgg : goodI bs = chkGood s7.2 s7.1 bs (infBadX ⟨G, E, C, J, F, Y⟩ L || decide (65536 < (infBX ⟨G, E, C, J, F, Y⟩ L).length)) (infBX ⟨G, E, C, J, F, Y⟩ L) := by unfold goodI; rw [hpp, hpn, hp7]
  have HOk := Lib.hid hok
  obtain ⟨q, hq⟩ : ∃ q, q = goodI bs := ⟨_, rfl⟩
  rw [← hq]
  have HQ := Lib.hid (show chkGood s7.2 s7.1 bs ((infBadX ⟨G, E, C, J, F, Y⟩ L || decide (65536 < (infBX ⟨G, E, C, J, F, Y⟩ L).length))) (infBX ⟨G, E, C, J, F, Y⟩ L) = q by rw [hq, hgg])
  have C1 := Lib.hid (fun (W : World) (h : Rin W (w.heap.size + 1) (w.heap.size + 1) s0 0) => (show Calls Try.prog 93 #[.pointer (some ⟨w.heap.size + 1, 0, none⟩)] W fun e w' => e = .returned (.agg (G.map b8).toArray) ∧ Rin w' (w.heap.size + 1) (w.heap.size + 1) s1 1 ∧ W.grownBy w' (some (w.heap.size + 1)) by rw [hG, hs1]; exact rsum_any h (by omega) (by omega)))
  have C2 := Lib.hid (fun (W : World) (h : Rin W (w.heap.size + 1) (w.heap.size + 1) s1 1) => (show Calls Try.prog 94 #[.pointer (some ⟨w.heap.size + 1, 0, none⟩), .int .i64 4] W fun e w' => e = .returned (.int .i64 (E : Int)) ∧ Rin w' (w.heap.size + 1) (w.heap.size + 1) s2 2 ∧ W.grownBy w' (some (w.heap.size + 1)) by rw [hE, hs2]; exact rnum_any h 4 4 rfl (by omega) (by omega) (by omega)))
  have C3 := Lib.hid (fun (W : World) (h : Rin W (w.heap.size + 1) (w.heap.size + 1) s2 2) => (show Calls Try.prog 90 #[.pointer (some ⟨w.heap.size + 1, 0, none⟩)] W fun e w' => ∃ v ts, e = .returned v ∧ OwnT w' W.heap.size v ts ∧ ts.map (·.x) = L ∧ Rin w' (w.heap.size + 1) (w.heap.size + 1) s3 11 ∧ W.grownBy w' (some (w.heap.size + 1)) by rw [hL, hs3]; exact rtree_any h (by omega) (by omega)))
  have C4 := Lib.hid (fun (W : World) (h : Rin W (w.heap.size + 1) (w.heap.size + 1) s3 11) => (show Calls Try.prog 93 #[.pointer (some ⟨w.heap.size + 1, 0, none⟩)] W fun e w' => e = .returned (.agg (C.map b8).toArray) ∧ Rin w' (w.heap.size + 1) (w.heap.size + 1) s4 12 ∧ W.grownBy w' (some (w.heap.size + 1)) by rw [hC, hs4]; exact rsum_any h (by omega) (by omega)))
  have C5 := Lib.hid (fun (W : World) (h : Rin W (w.heap.size + 1) (w.heap.size + 1) s4 12) => (show Calls Try.prog 93 #[.pointer (some ⟨w.heap.size + 1, 0, none⟩)] W fun e w' => e = .returned (.agg (J.map b8).toArray) ∧ Rin w' (w.heap.size + 1) (w.heap.size + 1) s5 13 ∧ W.grownBy w' (some (w.heap.size + 1)) by rw [hJ, hs5]; exact rsum_any h (by omega) (by omega)))
  have C6 := Lib.hid (fun (W : World) (h : Rin W (w.heap.size + 1) (w.heap.size + 1) s5 13) => (show Calls Try.prog 94 #[.pointer (some ⟨w.heap.size + 1, 0, none⟩), .int .i64 1] W fun e w' => e = .returned (.int .i64 (F : Int)) ∧ Rin w' (w.heap.size + 1) (w.heap.size + 1) s6 14 ∧ W.grownBy w' (some (w.heap.size + 1)) by rw [hF, hs6]; exact rnum_any h 1 1 rfl (by omega) (by omega) (by omega)))
  have C7 := Lib.hid (fun (W : World) (h : Rin W (w.heap.size + 1) (w.heap.size + 1) s6 14) => (show Calls Try.prog 96 #[.pointer (some ⟨w.heap.size + 1, 0, none⟩)] W fun e w' => e = .returned (.agg (Y.map b8).toArray) ∧ Rin w' (w.heap.size + 1) (w.heap.size + 1) s7 15 ∧ W.grownBy w' (some (w.heap.size + 1)) by rw [hY, hs7]; exact rwide_any h (by omega) (by omega)))
  have GL := Lib.hid Gl
  have LUm := Lib.hid Lum
  have CL := Lib.hid Cl
  have JL := Lib.hid Jl
  have YL := Lib.hid Yl
  have HBu := Lib.hid (built_rInfo G GL.out)
  have HF := Lib.hid (rin_new2 (c := c) (zerosInfo) 64 hr hB' hn hnc)
  have HS0 := Lib.hid hs0
  clear hr hn hs0 l0 hG hs1 l1 hE hs2 l2 hL hs3 l3 hC hs4 l4 hJ hs5 l5 hF hs6 l6 hY hs7 l7 hpp hpn hp7 hok hgg hq Gl Lum Cl Jl Yl
  go_enter Try.func44, Try.ntmps44
  go_wp2_with fail
  generalize hW1 : World.alloc (World.alloc w _) _ = w1
  obtain ⟨hp1, he1, hb1, hz1⟩ := HF.out w1 hW1
  rw [← HS0.out] at he1
  have hz1' : w.heap.size + 2 ≤ w1.heap.size := by omega
  clear hW1 HF hz1
  have HP1 := Lib.hid hp1
  have HE1 := Lib.hid he1
  have HB1 := Lib.hid hb1
  clear hp1 he1 hb1
  refine (C1.out _ HE1.out).mono ?_
  rintro e w2 ⟨rfl, he2, hg2⟩
  have HE2 := Lib.hid he2
  have HP2 := Lib.hid (HP1.out.grown hg2 (by intro e; have := Option.some.inj e; omega))
  have HB2 := Lib.hid (HB1.out.trans (below_grown hg2 (by omega) (by omega)) : Below w.heap.size w w2)
  have hz2' := Nat.le_trans hz1' hg2.size
  clear he2 HE1 HP1 HB1
  clear hg2
  have HXl := Lib.hid (show (infC ⟨G, 0, zero32, zero32, 0, zSig⟩ none 0 0).length = 163 by simp [infC, GL.out, CL.out, JL.out, YL.out, zero32_len, zSig])
  have HZl := Lib.hid (show (zerosInfo).length = 163 by exact zerosInfo_len)
  go_wp2_with (first
    | (refine wpList_build_at rfl 64 [(0, .tmp 12)] rfl _ _ rfl HBu.out ?_)
    | (refine wpList_store_blk rfl 64 _ _ rfl w2.heap.size rfl (infC ⟨G, 0, zero32, zero32, 0, zSig⟩ none 0 0) rfl _ _ (Blk.new w2 64 (zerosInfo)) (by rw [HZl.out, HXl.out]) (by rw [HXl.out]; exact infoInfo) (infC_one _ _ _ _) ?_; intro w3 hp3 hg3; have HX3 := Lib.hid hp3; have HG3 := Lib.hid hg3; clear hp3 hg3))
  have hb3 : Below w2.heap.size w2 w3 := below_box HG3.out
  obtain ⟨gx, hgx⟩ : ∃ gx, gx = w2.heap.size := ⟨_, rfl⟩
  have hgx2 : w.heap.size + 2 ≤ gx := by omega
  have HE3 := Lib.hid (HE2.out.below hb3 (Nat.le_refl _))
  have HP3 := Lib.hid (HP2.out.below hb3 (by omega))
  have HB3 := Lib.hid (HB2.out.trans (hb3.mono (by omega)))
  have hz3' := Nat.le_trans hz2' hb3.size
  rw [← hgx] at HX3 ⊢
  have hzx3 : gx + 1 ≤ w3.heap.size := by have := HX3.out.lt; omega
  clear hb3 HG3 HE2 HP2 HB2 hgx HXl
  refine (C2.out _ HE3.out).mono ?_
  rintro e w4 ⟨rfl, he4, hg4⟩
  have HX4 := Lib.hid (HX3.out.grown hg4 (by intro e; have := Option.some.inj e; omega))
  have hzx4 := Nat.le_trans hzx3 hg4.size
  clear HX3
  have HE4 := Lib.hid he4
  have HP4 := Lib.hid (HP3.out.grown hg4 (by intro e; have := Option.some.inj e; omega))
  have HB4 := Lib.hid (HB3.out.trans (below_grown hg4 (by omega) (by omega)) : Below w.heap.size w w4)
  have hz4' := Nat.le_trans hz3' hg4.size
  clear he4 HE3 HP3 HB3
  clear hg4
  have HXo := Lib.hid HX4.out
  have c1 := HX4.out.one (pre := G.map b8) (post := [.slice none 0 0] ++ (zero32.map b8 ++ (zero32.map b8 ++ ([.int .i64 (0 : Int)] ++ (zSig.map b8))))) (u := .int .i64 (0 : Int)) (o := 32) (by simp [infC]) (by simp [GL.out, CL.out, JL.out, YL.out, zero32_len, zSig])
  have f1 := HX4.out.frozen 32
  have hx5 := (HX4.out.put_one (pre := G.map b8) (post := [.slice none 0 0] ++ (zero32.map b8 ++ (zero32.map b8 ++ ([.int .i64 (0 : Int)] ++ (zSig.map b8))))) (u := .int .i64 (0 : Int)) (o := 32) (by simp [infC]) (by simp [GL.out, CL.out, JL.out, YL.out, zero32_len, zSig]) (.int .i64 (E : Int))).cast (show _ = infC ⟨G, E, zero32, zero32, 0, zSig⟩ none 0 0 by simp [infC])
  have hg5 := grownBy_set w4 gx 32 (.int .i64 (E : Int))
  go_wp2_with fail
  generalize w4.setCell ⟨gx, 32, none⟩ (.int .i64 (E : Int)) = w5 at hx5 hg5 ⊢
  have HX5 := Lib.hid hx5
  have HE5 := Lib.hid (HE4.out.grown hg5 (by omega) (by omega))
  have HP5 := Lib.hid (HP4.out.grown hg5 (by intro e; have := Option.some.inj e; omega))
  have HB5 := Lib.hid (HB4.out.trans (below_grown hg5 (by omega) (by omega)) : Below w.heap.size w w5)
  have hz5' := Nat.le_trans hz4' hg5.size
  have hzx5 := Nat.le_trans hzx4 hg5.size
  clear hx5 HE4 HP4 HB4 HX4
  clear hg5 HXo c1 f1
  refine (C3.out _ HE5.out).mono ?_
  rintro e w6 ⟨v6, ts, rfl, ho6, hts, he6, hg6⟩
  obtain ⟨A6, c6, rfl, -, -, -, -⟩ := ho6.shape
  have HX6 := Lib.hid (HX5.out.grown hg6 (by intro e; have := Option.some.inj e; omega))
  have hzx6 := Nat.le_trans hzx5 hg6.size
  clear HX5
  have HE6 := Lib.hid he6
  have HP6 := Lib.hid (HP5.out.grown hg6 (by intro e; have := Option.some.inj e; omega))
  have HB6 := Lib.hid (HB5.out.trans (below_grown hg6 (by omega) (by omega)) : Below w.heap.size w w6)
  have hz6' := Nat.le_trans hz5' hg6.size
  clear he6 HE5 HP5 HB5
  have HTs := Lib.hid hts
  clear hts
  clear hg6
  have HXo := Lib.hid HX6.out
  have c1 := HX6.out.one (pre := G.map b8 ++ ([.int .i64 (E : Int)])) (post := zero32.map b8 ++ (zero32.map b8 ++ ([.int .i64 (0 : Int)] ++ (zSig.map b8)))) (u := .slice none 0 0) (o := 33) (by simp [infC]) (by simp [GL.out, CL.out, JL.out, YL.out, zero32_len, zSig])
  have f1 := HX6.out.frozen 33
  have hx7 := (HX6.out.put_one (pre := G.map b8 ++ ([.int .i64 (E : Int)])) (post := zero32.map b8 ++ (zero32.map b8 ++ ([.int .i64 (0 : Int)] ++ (zSig.map b8)))) (u := .slice none 0 0) (o := 33) (by simp [infC]) (by simp [GL.out, CL.out, JL.out, YL.out, zero32_len, zSig]) (.slice A6 ts.length c6)).cast (show _ = infC ⟨G, E, zero32, zero32, 0, zSig⟩ A6 ts.length c6 by simp [infC])
  have hg7 := grownBy_set w6 gx 33 (.slice A6 ts.length c6)
  have ho7 := ho6.kept hg7 (by omega)
  go_wp2_with fail
  generalize w6.setCell ⟨gx, 33, none⟩ (.slice A6 ts.length c6) = w7 at hx7 hg7 ho7 ⊢
  have HX7 := Lib.hid hx7
  have HE7 := Lib.hid (HE6.out.grown hg7 (by omega) (by omega))
  have HP7 := Lib.hid (HP6.out.grown hg7 (by intro e; have := Option.some.inj e; omega))
  have HB7 := Lib.hid (HB6.out.trans (below_grown hg7 (by omega) (by omega)) : Below w.heap.size w w7)
  have hz7' := Nat.le_trans hz6' hg7.size
  have hzx7 := Nat.le_trans hzx6 hg7.size
  clear hx7 HE6 HP6 HB6 HX6
  have HT7 := Lib.hid ho7
  clear ho6 ho7
  clear hg7 HXo c1 f1
  refine (C4.out _ HE7.out).mono ?_
  rintro e w8 ⟨rfl, he8, hg8⟩
  have HX8 := Lib.hid (HX7.out.grown hg8 (by intro e; have := Option.some.inj e; omega))
  have hzx8 := Nat.le_trans hzx7 hg8.size
  clear HX7
  have HE8 := Lib.hid he8
  have HP8 := Lib.hid (HP7.out.grown hg8 (by intro e; have := Option.some.inj e; omega))
  have HB8 := Lib.hid (HB7.out.trans (below_grown hg8 (by omega) (by omega)) : Below w.heap.size w w8)
  have hz8' := Nat.le_trans hz7' hg8.size
  clear he8 HE7 HP7 HB7
  have HT8 := Lib.hid (HT7.out.kept hg8 (by omega))
  clear HT7
  clear hg8
  have HXo := Lib.hid HX8.out
  go_wp2_with (refine wpList_store_piece rfl 23 _ _ rfl gx 34 rfl (C.map b8) rfl 64 _ (G.map b8 ++ ([.int .i64 (E : Int)] ++ ([.slice A6 ts.length c6]))) (zero32.map b8) (zero32.map b8 ++ ([.int .i64 (0 : Int)] ++ (zSig.map b8))) HX8.out (by simp [infC]) (by simp [GL.out, CL.out, JL.out, YL.out, zero32_len, zSig]) (by simp [GL.out, CL.out, JL.out, YL.out, zero32_len, zSig]) (by rw [List.length_map, CL.out]; exact infoSumS) (b8s_one _) ?_; intro w9 hp9 hg9; have hx9 := hp9.cast (show _ = infC ⟨G, E, C, zero32, 0, zSig⟩ A6 ts.length c6 by simp [infC]); clear hp9)
  have HX9 := Lib.hid hx9
  have HE9 := Lib.hid (HE8.out.grown hg9 (by omega) (by omega))
  have HP9 := Lib.hid (HP8.out.grown hg9 (by intro e; have := Option.some.inj e; omega))
  have HB9 := Lib.hid (HB8.out.trans (below_grown hg9 (by omega) (by omega)) : Below w.heap.size w w9)
  have hz9' := Nat.le_trans hz8' hg9.size
  have hzx9 := Nat.le_trans hzx8 hg9.size
  clear hx9 HE8 HP8 HB8 HX8
  have HT9 := Lib.hid (HT8.out.kept hg9 (by omega))
  clear HT8
  clear hg9 HXo
  refine (C5.out _ HE9.out).mono ?_
  rintro e w10 ⟨rfl, he10, hg10⟩
  have HX10 := Lib.hid (HX9.out.grown hg10 (by intro e; have := Option.some.inj e; omega))
  have hzx10 := Nat.le_trans hzx9 hg10.size
  clear HX9
  have HE10 := Lib.hid he10
  have HP10 := Lib.hid (HP9.out.grown hg10 (by intro e; have := Option.some.inj e; omega))
  have HB10 := Lib.hid (HB9.out.trans (below_grown hg10 (by omega) (by omega)) : Below w.heap.size w w10)
  have hz10' := Nat.le_trans hz9' hg10.size
  clear he10 HE9 HP9 HB9
  have HT10 := Lib.hid (HT9.out.kept hg10 (by omega))
  clear HT9
  clear hg10
  have HXo := Lib.hid HX10.out
  go_wp2_with (refine wpList_store_piece rfl 23 _ _ rfl gx 66 rfl (J.map b8) rfl 64 _ (G.map b8 ++ ([.int .i64 (E : Int)] ++ ([.slice A6 ts.length c6] ++ (C.map b8)))) (zero32.map b8) ([.int .i64 (0 : Int)] ++ (zSig.map b8)) HX10.out (by simp [infC]) (by simp [GL.out, CL.out, JL.out, YL.out, zero32_len, zSig]) (by simp [GL.out, CL.out, JL.out, YL.out, zero32_len, zSig]) (by rw [List.length_map, JL.out]; exact infoSumS) (b8s_one _) ?_; intro w11 hp11 hg11; have hx11 := hp11.cast (show _ = infC ⟨G, E, C, J, 0, zSig⟩ A6 ts.length c6 by simp [infC]); clear hp11)
  have HX11 := Lib.hid hx11
  have HE11 := Lib.hid (HE10.out.grown hg11 (by omega) (by omega))
  have HP11 := Lib.hid (HP10.out.grown hg11 (by intro e; have := Option.some.inj e; omega))
  have HB11 := Lib.hid (HB10.out.trans (below_grown hg11 (by omega) (by omega)) : Below w.heap.size w w11)
  have hz11' := Nat.le_trans hz10' hg11.size
  have hzx11 := Nat.le_trans hzx10 hg11.size
  clear hx11 HE10 HP10 HB10 HX10
  have HT11 := Lib.hid (HT10.out.kept hg11 (by omega))
  clear HT10
  clear hg11 HXo
  refine (C6.out _ HE11.out).mono ?_
  rintro e w12 ⟨rfl, he12, hg12⟩
  have HX12 := Lib.hid (HX11.out.grown hg12 (by intro e; have := Option.some.inj e; omega))
  have hzx12 := Nat.le_trans hzx11 hg12.size
  clear HX11
  have HE12 := Lib.hid he12
  have HP12 := Lib.hid (HP11.out.grown hg12 (by intro e; have := Option.some.inj e; omega))
  have HB12 := Lib.hid (HB11.out.trans (below_grown hg12 (by omega) (by omega)) : Below w.heap.size w w12)
  have hz12' := Nat.le_trans hz11' hg12.size
  clear he12 HE11 HP11 HB11
  have HT12 := Lib.hid (HT11.out.kept hg12 (by omega))
  clear HT11
  clear hg12
  have HXo := Lib.hid HX12.out
  have c1 := HX12.out.one (pre := G.map b8 ++ ([.int .i64 (E : Int)] ++ ([.slice A6 ts.length c6] ++ (C.map b8 ++ (J.map b8))))) (post := zSig.map b8) (u := .int .i64 (0 : Int)) (o := 98) (by simp [infC]) (by simp [GL.out, CL.out, JL.out, YL.out, zero32_len, zSig])
  have f1 := HX12.out.frozen 98
  have hx13 := (HX12.out.put_one (pre := G.map b8 ++ ([.int .i64 (E : Int)] ++ ([.slice A6 ts.length c6] ++ (C.map b8 ++ (J.map b8))))) (post := zSig.map b8) (u := .int .i64 (0 : Int)) (o := 98) (by simp [infC]) (by simp [GL.out, CL.out, JL.out, YL.out, zero32_len, zSig]) (.int .i64 (F : Int))).cast (show _ = infC ⟨G, E, C, J, F, zSig⟩ A6 ts.length c6 by simp [infC])
  have hg13 := grownBy_set w12 gx 98 (.int .i64 (F : Int))
  go_wp2_with fail
  generalize w12.setCell ⟨gx, 98, none⟩ (.int .i64 (F : Int)) = w13 at hx13 hg13 ⊢
  have HX13 := Lib.hid hx13
  have HE13 := Lib.hid (HE12.out.grown hg13 (by omega) (by omega))
  have HP13 := Lib.hid (HP12.out.grown hg13 (by intro e; have := Option.some.inj e; omega))
  have HB13 := Lib.hid (HB12.out.trans (below_grown hg13 (by omega) (by omega)) : Below w.heap.size w w13)
  have hz13' := Nat.le_trans hz12' hg13.size
  have hzx13 := Nat.le_trans hzx12 hg13.size
  clear hx13 HE12 HP12 HB12 HX12
  have HT13 := Lib.hid (HT12.out.kept hg13 (by omega))
  clear HT12
  clear hg13 HXo c1 f1
  refine (C7.out _ HE13.out).mono ?_
  rintro e w14 ⟨rfl, he14, hg14⟩
  have HX14 := Lib.hid (HX13.out.grown hg14 (by intro e; have := Option.some.inj e; omega))
  have hzx14 := Nat.le_trans hzx13 hg14.size
  clear HX13
  have HE14 := Lib.hid he14
  have HP14 := Lib.hid (HP13.out.grown hg14 (by intro e; have := Option.some.inj e; omega))
  have HB14 := Lib.hid (HB13.out.trans (below_grown hg14 (by omega) (by omega)) : Below w.heap.size w w14)
  have hz14' := Nat.le_trans hz13' hg14.size
  clear he14 HE13 HP13 HB13
  have HT14 := Lib.hid (HT13.out.kept hg14 (by omega))
  clear HT13
  clear hg14
  have HXo := Lib.hid HX14.out
  have HLm := Lib.hid (show (infC ⟨G, E, C, J, F, Y⟩ A6 ts.length c6).length = 163 by simp [infC, GL.out, CL.out, JL.out, YL.out, zero32_len, zSig])
  go_wp2_with (first
    | (refine wpList_store_piece rfl 62 _ _ rfl gx 99 rfl (Y.map b8) rfl 64 _ (G.map b8 ++ ([.int .i64 (E : Int)] ++ ([.slice A6 ts.length c6] ++ (C.map b8 ++ (J.map b8 ++ ([.int .i64 (F : Int)])))))) (zSig.map b8) ([]) HX14.out (by simp [infC]) (by simp [GL.out, CL.out, JL.out, YL.out, zero32_len, zSig]) (by simp [GL.out, CL.out, JL.out, YL.out, zero32_len, zSig]) (by rw [List.length_map, YL.out]; exact infoWideS) (b8s_one _) ?_; intro w15 hp15 hg15; have hx15 := hp15.cast (show _ = infC ⟨G, E, C, J, F, Y⟩ A6 ts.length c6 by simp [infC]); have HXm := Lib.hid hx15; clear hp15)
    | (refine wpList_load_mid rfl 64 (.tmp 5) rfl gx 0 rfl (infC ⟨G, E, C, J, F, Y⟩ A6 ts.length c6) _ (Blk.whole HXm.out) Try.underlying64 rfl (by rw [HLm.out]; exact infoInfo) ?_))
  have HX15 := Lib.hid hx15
  have HE15 := Lib.hid (HE14.out.grown hg15 (by omega) (by omega))
  have HP15 := Lib.hid (HP14.out.grown hg15 (by intro e; have := Option.some.inj e; omega))
  have HB15 := Lib.hid (HB14.out.trans (below_grown hg15 (by omega) (by omega)) : Below w.heap.size w w15)
  have hz15' := Nat.le_trans hz14' hg15.size
  have hzx15 := Nat.le_trans hzx14 hg15.size
  clear hx15 HE14 HP14 HB14 HX14
  have HT15 := Lib.hid (HT14.out.kept hg15 (by omega))
  clear HT14
  clear hg15 HXo
  have hnl : ts.length ≤ 255 := by rw [← List.length_map (f := fun t : TN => t.x), HTs.out]; exact Ll
  have hum2 : ∀ t ∈ ts, t.x.um.length ≤ 300 := fun t ht => LUm.out t.x (by rw [← HTs.out]; exact List.mem_map_of_mem ht)
  have hput := refPutInf_any (c := c6) ⟨G, E, C, J, F, Y⟩ HOk.out (ownT_rd HT15.out) (Nat.le_refl _) rfl (by omega) hum2
  rw [infBad_X, infB_X, HTs.out] at hput
  obtain ⟨rb, hrb⟩ : ∃ rb, rb = ((infBadX ⟨G, E, C, J, F, Y⟩ L || decide (65536 < (infBX ⟨G, E, C, J, F, Y⟩ L).length))) := ⟨_, rfl⟩
  obtain ⟨X, hX⟩ : ∃ X, X = (if rb = true then [] else infBX ⟨G, E, C, J, F, Y⟩ L) := ⟨_, rfl⟩
  rw [← hrb, ← hX] at hput
  have HPut := Lib.hid hput
  have HQ' := Lib.hid (show chkGood s7.2 s7.1 bs rb X = q by rw [hX, chk_if, ← HQ.out, hrb])
  clear hput hrb hX HQ
  clear hum2 hnl
  have HXn := Lib.hid HX15.out
  have HLn := Lib.hid (show (infC ⟨G, E, C, J, F, Y⟩ A6 ts.length c6).length = 163 by simp [infC, GL.out, CL.out, JL.out, YL.out, zero32_len, zSig])
  refine HPut.out.mono ?_
  rintro e wa ⟨va, rfl, hoa, hba⟩
  obtain ⟨la, hla⟩ : ∃ l, X.length = l := ⟨_, rfl⟩
  obtain ⟨Aa, ca, rfl, hra, -, -, -⟩ := hoa.shape' hla
  have hsa : w15.heap.size ≤ wa.heap.size := hba.size
  have HXa := Lib.hid (HX15.out.below hba (by omega))
  have HPa := Lib.hid (HP15.out.below hba (by omega))
  have HBa := Lib.hid (HB15.out.trans (hba.mono (by omega)))
  have hwh := rwhole_any (HE15.out.below hba (Nat.le_refl _)) c (HR.out.below (HBa.out.mono hB')) HN.out ca hra hla rb
  rw [HQ'.out] at hwh
  have HW := Lib.hid hwh
  clear hwh hla hoa hra hba HPut HE15 HB15 HX15 HP15
  go_wp2_with fail
  refine HW.out.mono ?_
  rintro e wb ⟨rfl, rfl⟩
  cases q with
  | true =>
    go_wp2_with (first
      | (refine wpList_load_mid rfl 64 (.tmp 5) rfl gx 0 rfl (infC ⟨G, E, C, J, F, Y⟩ A6 ts.length c6) _ (Blk.whole HXa.out) Try.underlying64 rfl (by rw [HLn.out]; exact infoInfo) ?_)
      | (refine wpList_store_blk rfl 64 _ _ rfl w.heap.size rfl (infC ⟨G, E, C, J, F, Y⟩ A6 ts.length c6) rfl _ _ HPa.out (by rw [HZl.out, HLn.out]) (by rw [HLn.out]; exact infoInfo) (infC_one _ _ _ _) ?_; intro wz hpz hgz; have HPz := Lib.hid hpz; have HGz := Lib.hid hgz; clear hpz hgz))
    refine bodyPost_ret (v := .tuple #[.agg (infC ⟨G, E, C, J, F, Y⟩ A6 ts.length c6).toArray, .bool true]) (results_blk_tmp (g := w.heap.size) rfl _ _ _ _ _ _ rfl rfl HPz.out Try.underlying64 rfl (by rw [HLn.out]; exact infoInfo)) rfl ?_
    exact ⟨HBa.out.grown HGz.out (by omega) (fun k e => by cases e; omega), _, rfl, HLn.out, infC_one _ _ _ _⟩
  | false =>
    go_wp2_with (first
      | (refine wpList_build_at rfl 64 [] rfl _ _ rfl built_zInfo ?_)
      | (refine wpList_store_blk rfl 64 _ _ rfl w.heap.size rfl (zerosInfo) rfl _ _ HPa.out rfl (by rw [HZl.out]; exact infoInfo) (zerosInfo_one) ?_; intro wz hpz hgz; have HPz := Lib.hid hpz; have HGz := Lib.hid hgz; clear hpz hgz))
    refine bodyPost_ret (v := .tuple #[.agg (zerosInfo).toArray, .bool false]) (results_blk_tmp (g := w.heap.size) rfl _ _ _ _ _ _ rfl rfl HPz.out Try.underlying64 rfl (by rw [HZl.out]; exact infoInfo)) rfl ?_
    exact ⟨HBa.out.grown HGz.out (by omega) (fun k e => by cases e; omega), _, rfl, HZl.out, zerosInfo_one⟩
end Go.Proofs.Ytloglpamnalmeaa

/- CONTRACT: burrowref09.TakePacket: only whether the bytes are good. -/
namespace Go.Proofs.Ytloglpamnalmeaa
open Go.RowKit
set_option linter.unusedVariables false
set_option linter.unusedSimpArgs false

set_option maxRecDepth 100000 in
theorem built_rPacket (G : List (BitVec 8)) (h : G.length = 32) : Try.prog.built 26 [(0, .agg (G.map b8).toArray)] = some (packetC G 0 0 0 none 0 0).toArray := by
  obtain ⟨x0, x1, x2, x3, x4, x5, x6, x7, x8, x9, x10, x11, x12, x13, x14, x15, x16, x17, x18, x19, x20, x21, x22, x23, x24, x25, x26, x27, x28, x29, x30, x31, rfl⟩ := list32 h
  kernel_rfl
theorem built_zPacket : Try.prog.built 26 [] = some (packetC zero32 0 0 0 none 0 0).toArray := by kernel_rfl
set_option maxRecDepth 100000 in
set_option maxHeartbeats 4000000 in
theorem rtakePacket_any {w : World} {B' : Nat} {A : Option Addr} {n c : Nat} {bs : List (BitVec 8)} (hr : Rd b8 w B' A bs) (hB' : B' ≤ w.heap.size) (hn : bs.length = n) (hnc : n ≤ c) (hy : n ≤ 1000000) :
    Calls Try.prog 46 #[.slice A n c] w fun e w' => Below w.heap.size w w' ∧ ∃ cs : List Value, e = .returned (.tuple #[.agg cs.toArray, .bool (goodPk bs)]) ∧ cs.length = 36 ∧ ∀ u ∈ cs, u.oneCell' = true := by
  have HR := Lib.hid hr
  have HN := Lib.hid hn
  obtain ⟨s0, hs0⟩ : ∃ s : St, s = (bs, false) := ⟨_, rfl⟩
  have l0 : s0.1.length ≤ 1000000 := by rw [hs0]; show bs.length ≤ _; omega
  obtain ⟨G, hG⟩ : ∃ x, x = (pTk 32 s0).1 := ⟨_, rfl⟩
  obtain ⟨s1, hs1⟩ : ∃ x, x = (pTk 32 s0).2 := ⟨_, rfl⟩
  have l1 : s1.1.length ≤ 1000000 := by rw [hs1]; exact Nat.le_trans (pTk_le _ _) l0
  have Gl : G.length = 32 := by rw [hG]; exact pTk_len _ _
  obtain ⟨E, hE⟩ : ∃ x, x = (pNum 4 s1).1 := ⟨_, rfl⟩
  obtain ⟨s2, hs2⟩ : ∃ x, x = (pNum 4 s1).2 := ⟨_, rfl⟩
  have l2 : s2.1.length ≤ 1000000 := by rw [hs2]; exact Nat.le_trans (pNum_le _ _) l1
  have Eb : E < 4294967296 := by rw [hE]; exact Nat.lt_of_lt_of_le (beVal_lt 4 _ (tkO_len _ _)) (by decide)
  obtain ⟨F, hF⟩ : ∃ x, x = (pNum 1 s2).1 := ⟨_, rfl⟩
  obtain ⟨s3, hs3⟩ : ∃ x, x = (pNum 1 s2).2 := ⟨_, rfl⟩
  have l3 : s3.1.length ≤ 1000000 := by rw [hs3]; exact Nat.le_trans (pNum_le _ _) l2
  have Fb : F < 4294967296 := by rw [hF]; exact Nat.lt_of_lt_of_le (beVal_lt 1 _ (tkO_len _ _)) (by decide)
  obtain ⟨M, hM⟩ : ∃ x, x = (pNum 4 s3).1 := ⟨_, rfl⟩
  obtain ⟨s4, hs4⟩ : ∃ x, x = (pNum 4 s3).2 := ⟨_, rfl⟩
  have l4 : s4.1.length ≤ 1000000 := by rw [hs4]; exact Nat.le_trans (pNum_le _ _) l3
  have Mb : M < 4294967296 := by rw [hM]; exact Nat.lt_of_lt_of_le (beVal_lt 4 _ (tkO_len _ _)) (by decide)
  obtain ⟨m, hm⟩ : ∃ x, x = (pNum 2 s4).1 := ⟨_, rfl⟩
  obtain ⟨s5, hs5⟩ : ∃ x, x = (pNum 2 s4).2 := ⟨_, rfl⟩
  have l5 : s5.1.length ≤ 1000000 := by rw [hs5]; exact Nat.le_trans (pNum_le _ _) l4
  have mb : m < 65536 := by rw [hm]; exact beVal_lt 2 _ (tkO_len _ _)
  obtain ⟨X0, hX0⟩ : ∃ x, x = (pTk m s5).1 := ⟨_, rfl⟩
  obtain ⟨s6, hs6⟩ : ∃ x, x = (pTk m s5).2 := ⟨_, rfl⟩
  have l6 : s6.1.length ≤ 1000000 := by rw [hs6]; exact Nat.le_trans (pTk_le _ _) l5
  have X0l : X0.length = m := by rw [hX0]; exact pTk_len _ _
  have hpp : parsePk bs = ⟨G, E, F, M, X0, s6.1, s6.2⟩ := by
    rw [hG, hE, hF, hM, hX0, hs6, hm, hs5, hs4, hs3, hs2, hs1, hs0]
    rfl
  have hgg : goodPk bs = chkGood s6.2 s6.1 bs (pkBad E F M m) (pkBytes G E F M X0) := by unfold goodPk; rw [hpp, ← X0l]; rfl
  obtain ⟨q, hq⟩ : ∃ q, q = goodPk bs := ⟨_, rfl⟩
  rw [← hq]
  have HQ := Lib.hid (show chkGood s6.2 s6.1 bs (pkBad E F M m) (pkBytes G E F M X0) = q by rw [hq, hgg])
  have C1 := Lib.hid (fun (W : World) (h : Rin W (w.heap.size + 1) (w.heap.size + 1) s0 0) => (show Calls Try.prog 93 #[.pointer (some ⟨w.heap.size + 1, 0, none⟩)] W fun e w' => e = .returned (.agg (G.map b8).toArray) ∧ Rin w' (w.heap.size + 1) (w.heap.size + 1) s1 1 ∧ W.grownBy w' (some (w.heap.size + 1)) by rw [hG, hs1]; exact rsum_any h (by omega) (by omega)))
  have C2 := Lib.hid (fun (W : World) (h : Rin W (w.heap.size + 1) (w.heap.size + 1) s1 1) => (show Calls Try.prog 94 #[.pointer (some ⟨w.heap.size + 1, 0, none⟩), .int .i64 4] W fun e w' => e = .returned (.int .i64 (E : Int)) ∧ Rin w' (w.heap.size + 1) (w.heap.size + 1) s2 2 ∧ W.grownBy w' (some (w.heap.size + 1)) by rw [hE, hs2]; exact rnum_any h 4 4 rfl (by omega) (by omega) (by omega)))
  have C3 := Lib.hid (fun (W : World) (h : Rin W (w.heap.size + 1) (w.heap.size + 1) s2 2) => (show Calls Try.prog 94 #[.pointer (some ⟨w.heap.size + 1, 0, none⟩), .int .i64 1] W fun e w' => e = .returned (.int .i64 (F : Int)) ∧ Rin w' (w.heap.size + 1) (w.heap.size + 1) s3 3 ∧ W.grownBy w' (some (w.heap.size + 1)) by rw [hF, hs3]; exact rnum_any h 1 1 rfl (by omega) (by omega) (by omega)))
  have C4 := Lib.hid (fun (W : World) (h : Rin W (w.heap.size + 1) (w.heap.size + 1) s3 3) => (show Calls Try.prog 94 #[.pointer (some ⟨w.heap.size + 1, 0, none⟩), .int .i64 4] W fun e w' => e = .returned (.int .i64 (M : Int)) ∧ Rin w' (w.heap.size + 1) (w.heap.size + 1) s4 4 ∧ W.grownBy w' (some (w.heap.size + 1)) by rw [hM, hs4]; exact rnum_any h 4 4 rfl (by omega) (by omega) (by omega)))
  have C5 := Lib.hid (fun (W : World) (h : Rin W (w.heap.size + 1) (w.heap.size + 1) s4 4) => (show Calls Try.prog 94 #[.pointer (some ⟨w.heap.size + 1, 0, none⟩), .int .i64 2] W fun e w' => e = .returned (.int .i64 (m : Int)) ∧ Rin w' (w.heap.size + 1) (w.heap.size + 1) s5 5 ∧ W.grownBy w' (some (w.heap.size + 1)) by rw [hm, hs5]; exact rnum_any h 2 2 rfl (by omega) (by omega) (by omega)))
  have C6 := Lib.hid (fun (W : World) (h : Rin W (w.heap.size + 1) (w.heap.size + 1) s5 5) => (show Calls Try.prog 97 #[.pointer (some ⟨w.heap.size + 1, 0, none⟩), .int .i64 (m : Int)] W fun e w' => ∃ v, e = .returned v ∧ Own b8 w' W.heap.size 5 v X0 ∧ Rin w' (w.heap.size + 1) (w.heap.size + 1) s6 6 ∧ W.grownBy w' (some (w.heap.size + 1)) by rw [hX0, hs6]; exact rtake_any h m (by omega) (by omega) (by omega)))
  have GL := Lib.hid Gl
  have X0L := Lib.hid X0l
  have HBu := Lib.hid (built_rPacket G GL.out)
  have HF := Lib.hid (rin_new2 (c := c) (packetC zero32 0 0 0 none 0 0) 26 hr hB' hn hnc)
  have HS0 := Lib.hid hs0
  clear hr hn hs0 l0 hG hs1 l1 hE hs2 l2 hF hs3 l3 hM hs4 l4 hm hs5 l5 hX0 hs6 l6 hpp hgg hq Gl X0l
  go_enter Try.func46, Try.ntmps46
  go_wp2_with fail
  generalize hW1 : World.alloc (World.alloc w _) _ = w1
  obtain ⟨hp1, he1, hb1, hz1⟩ := HF.out w1 hW1
  rw [← HS0.out] at he1
  have hz1' : w.heap.size + 2 ≤ w1.heap.size := by omega
  clear hW1 HF hz1
  have HP1 := Lib.hid hp1
  have HE1 := Lib.hid he1
  have HB1 := Lib.hid hb1
  clear hp1 he1 hb1
  refine (C1.out _ HE1.out).mono ?_
  rintro e w2 ⟨rfl, he2, hg2⟩
  have HE2 := Lib.hid he2
  have HP2 := Lib.hid (HP1.out.grown hg2 (by intro e; have := Option.some.inj e; omega))
  have HB2 := Lib.hid (HB1.out.trans (below_grown hg2 (by omega) (by omega)) : Below w.heap.size w w2)
  have hz2' := Nat.le_trans hz1' hg2.size
  clear he2 HE1 HP1 HB1
  clear hg2
  have HXl := Lib.hid (show (packetC G 0 0 0 none 0 0).length = 36 by simp [packetC, GL.out, zero32_len, zSig])
  have HZl := Lib.hid (show (packetC zero32 0 0 0 none 0 0).length = 36 by simp [packetC, zero32_len])
  go_wp2_with (first
    | (refine wpList_build_at rfl 26 [(0, .tmp 12)] rfl _ _ rfl HBu.out ?_)
    | (refine wpList_store_blk rfl 26 _ _ rfl w2.heap.size rfl (packetC G 0 0 0 none 0 0) rfl _ _ (Blk.new w2 26 (packetC zero32 0 0 0 none 0 0)) (by rw [HZl.out, HXl.out]) (by rw [HXl.out]; exact infoPacket) (packetC_one _ _ _ _ _ _ _) ?_; intro w3 hp3 hg3; have HX3 := Lib.hid hp3; have HG3 := Lib.hid hg3; clear hp3 hg3))
  have hb3 : Below w2.heap.size w2 w3 := below_box HG3.out
  obtain ⟨gx, hgx⟩ : ∃ gx, gx = w2.heap.size := ⟨_, rfl⟩
  have hgx2 : w.heap.size + 2 ≤ gx := by omega
  have HE3 := Lib.hid (HE2.out.below hb3 (Nat.le_refl _))
  have HP3 := Lib.hid (HP2.out.below hb3 (by omega))
  have HB3 := Lib.hid (HB2.out.trans (hb3.mono (by omega)))
  have hz3' := Nat.le_trans hz2' hb3.size
  rw [← hgx] at HX3 ⊢
  have hzx3 : gx + 1 ≤ w3.heap.size := by have := HX3.out.lt; omega
  clear hb3 HG3 HE2 HP2 HB2 hgx HXl
  refine (C2.out _ HE3.out).mono ?_
  rintro e w4 ⟨rfl, he4, hg4⟩
  have HX4 := Lib.hid (HX3.out.grown hg4 (by intro e; have := Option.some.inj e; omega))
  have hzx4 := Nat.le_trans hzx3 hg4.size
  clear HX3
  have HE4 := Lib.hid he4
  have HP4 := Lib.hid (HP3.out.grown hg4 (by intro e; have := Option.some.inj e; omega))
  have HB4 := Lib.hid (HB3.out.trans (below_grown hg4 (by omega) (by omega)) : Below w.heap.size w w4)
  have hz4' := Nat.le_trans hz3' hg4.size
  clear he4 HE3 HP3 HB3
  clear hg4
  have HXo := Lib.hid HX4.out
  have c1 := HX4.out.one (pre := G.map b8) (post := [.int .i64 (0 : Int)] ++ ([.int .i64 (0 : Int)] ++ ([.slice none 0 0]))) (u := .int .i64 (0 : Int)) (o := 32) (by simp [packetC]) (by simp [GL.out, zero32_len, zSig])
  have f1 := HX4.out.frozen 32
  have hx5 := (HX4.out.put_one (pre := G.map b8) (post := [.int .i64 (0 : Int)] ++ ([.int .i64 (0 : Int)] ++ ([.slice none 0 0]))) (u := .int .i64 (0 : Int)) (o := 32) (by simp [packetC]) (by simp [GL.out, zero32_len, zSig]) (.int .i64 (E : Int))).cast (show _ = packetC G E 0 0 none 0 0 by simp [packetC])
  have hg5 := grownBy_set w4 gx 32 (.int .i64 (E : Int))
  go_wp2_with fail
  generalize w4.setCell ⟨gx, 32, none⟩ (.int .i64 (E : Int)) = w5 at hx5 hg5 ⊢
  have HX5 := Lib.hid hx5
  have HE5 := Lib.hid (HE4.out.grown hg5 (by omega) (by omega))
  have HP5 := Lib.hid (HP4.out.grown hg5 (by intro e; have := Option.some.inj e; omega))
  have HB5 := Lib.hid (HB4.out.trans (below_grown hg5 (by omega) (by omega)) : Below w.heap.size w w5)
  have hz5' := Nat.le_trans hz4' hg5.size
  have hzx5 := Nat.le_trans hzx4 hg5.size
  clear hx5 HE4 HP4 HB4 HX4
  clear hg5 HXo c1 f1
  refine (C3.out _ HE5.out).mono ?_
  rintro e w6 ⟨rfl, he6, hg6⟩
  have HX6 := Lib.hid (HX5.out.grown hg6 (by intro e; have := Option.some.inj e; omega))
  have hzx6 := Nat.le_trans hzx5 hg6.size
  clear HX5
  have HE6 := Lib.hid he6
  have HP6 := Lib.hid (HP5.out.grown hg6 (by intro e; have := Option.some.inj e; omega))
  have HB6 := Lib.hid (HB5.out.trans (below_grown hg6 (by omega) (by omega)) : Below w.heap.size w w6)
  have hz6' := Nat.le_trans hz5' hg6.size
  clear he6 HE5 HP5 HB5
  clear hg6
  have HXo := Lib.hid HX6.out
  have c1 := HX6.out.one (pre := G.map b8 ++ ([.int .i64 (E : Int)])) (post := [.int .i64 (0 : Int)] ++ ([.slice none 0 0])) (u := .int .i64 (0 : Int)) (o := 33) (by simp [packetC]) (by simp [GL.out, zero32_len, zSig])
  have f1 := HX6.out.frozen 33
  have hx7 := (HX6.out.put_one (pre := G.map b8 ++ ([.int .i64 (E : Int)])) (post := [.int .i64 (0 : Int)] ++ ([.slice none 0 0])) (u := .int .i64 (0 : Int)) (o := 33) (by simp [packetC]) (by simp [GL.out, zero32_len, zSig]) (.int .i64 (F : Int))).cast (show _ = packetC G E F 0 none 0 0 by simp [packetC])
  have hg7 := grownBy_set w6 gx 33 (.int .i64 (F : Int))
  go_wp2_with fail
  generalize w6.setCell ⟨gx, 33, none⟩ (.int .i64 (F : Int)) = w7 at hx7 hg7 ⊢
  have HX7 := Lib.hid hx7
  have HE7 := Lib.hid (HE6.out.grown hg7 (by omega) (by omega))
  have HP7 := Lib.hid (HP6.out.grown hg7 (by intro e; have := Option.some.inj e; omega))
  have HB7 := Lib.hid (HB6.out.trans (below_grown hg7 (by omega) (by omega)) : Below w.heap.size w w7)
  have hz7' := Nat.le_trans hz6' hg7.size
  have hzx7 := Nat.le_trans hzx6 hg7.size
  clear hx7 HE6 HP6 HB6 HX6
  clear hg7 HXo c1 f1
  refine (C4.out _ HE7.out).mono ?_
  rintro e w8 ⟨rfl, he8, hg8⟩
  have HX8 := Lib.hid (HX7.out.grown hg8 (by intro e; have := Option.some.inj e; omega))
  have hzx8 := Nat.le_trans hzx7 hg8.size
  clear HX7
  have HE8 := Lib.hid he8
  have HP8 := Lib.hid (HP7.out.grown hg8 (by intro e; have := Option.some.inj e; omega))
  have HB8 := Lib.hid (HB7.out.trans (below_grown hg8 (by omega) (by omega)) : Below w.heap.size w w8)
  have hz8' := Nat.le_trans hz7' hg8.size
  clear he8 HE7 HP7 HB7
  clear hg8
  have HXo := Lib.hid HX8.out
  have c1 := HX8.out.one (pre := G.map b8 ++ ([.int .i64 (E : Int)] ++ ([.int .i64 (F : Int)]))) (post := [.slice none 0 0]) (u := .int .i64 (0 : Int)) (o := 34) (by simp [packetC]) (by simp [GL.out, zero32_len, zSig])
  have f1 := HX8.out.frozen 34
  have hx9 := (HX8.out.put_one (pre := G.map b8 ++ ([.int .i64 (E : Int)] ++ ([.int .i64 (F : Int)]))) (post := [.slice none 0 0]) (u := .int .i64 (0 : Int)) (o := 34) (by simp [packetC]) (by simp [GL.out, zero32_len, zSig]) (.int .i64 (M : Int))).cast (show _ = packetC G E F M none 0 0 by simp [packetC])
  have hg9 := grownBy_set w8 gx 34 (.int .i64 (M : Int))
  go_wp2_with fail
  generalize w8.setCell ⟨gx, 34, none⟩ (.int .i64 (M : Int)) = w9 at hx9 hg9 ⊢
  have HX9 := Lib.hid hx9
  have HE9 := Lib.hid (HE8.out.grown hg9 (by omega) (by omega))
  have HP9 := Lib.hid (HP8.out.grown hg9 (by intro e; have := Option.some.inj e; omega))
  have HB9 := Lib.hid (HB8.out.trans (below_grown hg9 (by omega) (by omega)) : Below w.heap.size w w9)
  have hz9' := Nat.le_trans hz8' hg9.size
  have hzx9 := Nat.le_trans hzx8 hg9.size
  clear hx9 HE8 HP8 HB8 HX8
  clear hg9 HXo c1 f1
  refine (C5.out _ HE9.out).mono ?_
  rintro e w10 ⟨rfl, he10, hg10⟩
  have HX10 := Lib.hid (HX9.out.grown hg10 (by intro e; have := Option.some.inj e; omega))
  have hzx10 := Nat.le_trans hzx9 hg10.size
  clear HX9
  have HE10 := Lib.hid he10
  have HP10 := Lib.hid (HP9.out.grown hg10 (by intro e; have := Option.some.inj e; omega))
  have HB10 := Lib.hid (HB9.out.trans (below_grown hg10 (by omega) (by omega)) : Below w.heap.size w w10)
  have hz10' := Nat.le_trans hz9' hg10.size
  clear he10 HE9 HP9 HB9
  clear hg10
  go_wp2_with fail
  refine (C6.out _ HE10.out).mono ?_
  rintro e w11 ⟨v11, rfl, ho11, he11, hg11⟩
  obtain ⟨A11, c11, rfl, -, -, -, -⟩ := ho11.shape' X0L.out
  have HX11 := Lib.hid (HX10.out.grown hg11 (by intro e; have := Option.some.inj e; omega))
  have hzx11 := Nat.le_trans hzx10 hg11.size
  clear HX10
  have HE11 := Lib.hid he11
  have HP11 := Lib.hid (HP10.out.grown hg11 (by intro e; have := Option.some.inj e; omega))
  have HB11 := Lib.hid (HB10.out.trans (below_grown hg11 (by omega) (by omega)) : Below w.heap.size w w11)
  have hz11' := Nat.le_trans hz10' hg11.size
  clear he11 HE10 HP10 HB10
  clear hg11
  have HXo := Lib.hid HX11.out
  have c1 := HX11.out.one (pre := G.map b8 ++ ([.int .i64 (E : Int)] ++ ([.int .i64 (F : Int)] ++ ([.int .i64 (M : Int)])))) (post := []) (u := .slice none 0 0) (o := 35) (by simp [packetC]) (by simp [GL.out, zero32_len, zSig])
  have f1 := HX11.out.frozen 35
  have hx12 := (HX11.out.put_one (pre := G.map b8 ++ ([.int .i64 (E : Int)] ++ ([.int .i64 (F : Int)] ++ ([.int .i64 (M : Int)])))) (post := []) (u := .slice none 0 0) (o := 35) (by simp [packetC]) (by simp [GL.out, zero32_len, zSig]) (.slice A11 m c11)).cast (show _ = packetC G E F M A11 m c11 by simp [packetC])
  have hg12 := grownBy_set w11 gx 35 (.slice A11 m c11)
  have ho12 := ho11.kept hg12 (.inr (HXo.out.not_row (by decide) ho11).symm)
  have HXn := Lib.hid hx12
  have HLn := Lib.hid (show (packetC G E F M A11 m c11).length = 36 by simp [packetC, GL.out, zero32_len, zSig])
  go_wp2_with (refine wpList_load_mid rfl 26 (.tmp 5) rfl gx 0 rfl (packetC G E F M A11 m c11) _ (Blk.whole HXn.out) Try.underlying26 rfl (by rw [HLn.out]; exact infoPacket) ?_)
  generalize w11.setCell ⟨gx, 35, none⟩ (.slice A11 m c11) = w12 at hx12 hg12 ho12 HXn ⊢
  have HX12 := Lib.hid hx12
  have HE12 := Lib.hid (HE11.out.grown hg12 (by omega) (by omega))
  have HP12 := Lib.hid (HP11.out.grown hg12 (by intro e; have := Option.some.inj e; omega))
  have HB12 := Lib.hid (HB11.out.trans (below_grown hg12 (by omega) (by omega)) : Below w.heap.size w w12)
  have hz12' := Nat.le_trans hz11' hg12.size
  have hzx12 := Nat.le_trans hzx11 hg12.size
  clear hx12 HE11 HP11 HB11 HX11
  have HR12 := Lib.hid ho12
  clear ho11 ho12
  clear hg12 HXo c1 f1
  have hput := refPutPacket_any G E F M A11 m c11 w12.heap.size X0 w12 GL.out HR12.out.rd (Nat.le_refl _) X0L.out (by omega)
  obtain ⟨rb, hrb⟩ : ∃ rb, rb = (pkBad E F M m) := ⟨_, rfl⟩
  obtain ⟨X, hX⟩ : ∃ X, X = (if rb = true then [] else pkBytes G E F M X0) := ⟨_, rfl⟩
  rw [← hrb, ← hX] at hput
  have HPut := Lib.hid hput
  have HQ' := Lib.hid (show chkGood s6.2 s6.1 bs rb X = q by rw [hX, chk_if, ← HQ.out, hrb])
  clear hput hrb hX HQ
  refine HPut.out.mono ?_
  rintro e wa ⟨va, rfl, hoa, hba⟩
  obtain ⟨la, hla⟩ : ∃ l, X.length = l := ⟨_, rfl⟩
  obtain ⟨Aa, ca, rfl, hra, -, -, -⟩ := hoa.shape' hla
  have hsa : w12.heap.size ≤ wa.heap.size := hba.size
  have HXa := Lib.hid (HX12.out.below hba (by omega))
  have HPa := Lib.hid (HP12.out.below hba (by omega))
  have HBa := Lib.hid (HB12.out.trans (hba.mono (by omega)))
  have hwh := rwhole_any (HE12.out.below hba (Nat.le_refl _)) c (HR.out.below (HBa.out.mono hB')) HN.out ca hra hla rb
  rw [HQ'.out] at hwh
  have HW := Lib.hid hwh
  clear hwh hla hoa hra hba HPut HE12 HB12 HX12 HP12
  go_wp2_with fail
  refine HW.out.mono ?_
  rintro e wb ⟨rfl, rfl⟩
  cases q with
  | true =>
    go_wp2_with (first
      | (refine wpList_load_mid rfl 26 (.tmp 5) rfl gx 0 rfl (packetC G E F M A11 m c11) _ (Blk.whole HXa.out) Try.underlying26 rfl (by rw [HLn.out]; exact infoPacket) ?_)
      | (refine wpList_store_blk rfl 26 _ _ rfl w.heap.size rfl (packetC G E F M A11 m c11) rfl _ _ HPa.out (by rw [HZl.out, HLn.out]) (by rw [HLn.out]; exact infoPacket) (packetC_one _ _ _ _ _ _ _) ?_; intro wz hpz hgz; have HPz := Lib.hid hpz; have HGz := Lib.hid hgz; clear hpz hgz))
    refine bodyPost_ret (v := .tuple #[.agg (packetC G E F M A11 m c11).toArray, .bool true]) (results_blk_tmp (g := w.heap.size) rfl _ _ _ _ _ _ rfl rfl HPz.out Try.underlying26 rfl (by rw [HLn.out]; exact infoPacket)) rfl ?_
    exact ⟨HBa.out.grown HGz.out (by omega) (fun k e => by cases e; omega), _, rfl, HLn.out, packetC_one _ _ _ _ _ _ _⟩
  | false =>
    go_wp2_with (first
      | (refine wpList_build_at rfl 26 [] rfl _ _ rfl built_zPacket ?_)
      | (refine wpList_store_blk rfl 26 _ _ rfl w.heap.size rfl (packetC zero32 0 0 0 none 0 0) rfl _ _ HPa.out rfl (by rw [HZl.out]; exact infoPacket) (packetC_one _ _ _ _ _ _ _) ?_; intro wz hpz hgz; have HPz := Lib.hid hpz; have HGz := Lib.hid hgz; clear hpz hgz))
    refine bodyPost_ret (v := .tuple #[.agg (packetC zero32 0 0 0 none 0 0).toArray, .bool false]) (results_blk_tmp (g := w.heap.size) rfl _ _ _ _ _ _ rfl rfl HPz.out Try.underlying26 rfl (by rw [HZl.out]; exact infoPacket)) rfl ?_
    exact ⟨HBa.out.grown HGz.out (by omega) (fun k e => by cases e; omega), _, rfl, HZl.out, packetC_one _ _ _ _ _ _ _⟩
end Go.Proofs.Ytloglpamnalmeaa
