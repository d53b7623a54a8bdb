/- CONTRACT: the reader of the document's chapter 9: proposal. -/
import Derived.Test.YtloglpamnalmeaaRinTree
import Derived.Test.YtloglpamnalmeaaReadProp
import Derived.Test.YtloglpamnalmeaaRTakeW
import Derived.Test.YtloglpamnalmeaaTakeProp
import Derived.Test.YtloglpamnalmeaaRefPropB
namespace Go.Proofs.Ytloglpamnalmeaa
open Go.RowKit
set_option linter.unusedVariables false
set_option linter.unusedSimpArgs false

set_option maxRecDepth 100000 in
theorem built_rProp (G : List (BitVec 8)) (hG : G.length = 32) :
    Try.prog.built 71 [(0, .agg (G.map b8).toArray)] = some (propC ⟨G, 0, 0, zero32, 0, zNode, zero32, 0, zSig⟩ none 0).toArray := by
  obtain ⟨g0, g1, g2, g3, g4, g5, g6, g7, g8, g9, g10, g11, g12, g13, g14, g15, g16, g17, g18, g19, g20, g21, g22, g23, g24, g25, g26, g27, g28, g29, g30, g31, rfl⟩ := list32 hG
  kernel_rfl
theorem zSig_len : zSig.length = 64 := rfl
set_option maxRecDepth 100000 in
set_option maxHeartbeats 4000000 in
theorem rprop_any {w : World} {B g K0 : Nat} {s : St} (hE : Rin w B g s K0) (hy : s.1.length ≤ 10000000) (hK0 : K0 ≤ 800000) :
    Calls Try.prog 92 #[.pointer (some ⟨g, 0, none⟩)] w fun e w' => ∃ A c, e = .returned (.agg (propC (pProp s).1 A c).toArray) ∧ Own cI w' w.heap.size 3 (.slice A (pProp s).1.leaf.um.length c) (pProp s).1.leaf.um ∧ Rin w' B g (pProp s).2 (K0 + 16) ∧ w.grownBy w' (some g) := by
  have l0 := hy
  have l1 : (prS1 s).1.length ≤ 10000000 := by have := pTk_le 32 s; unfold prS1; omega
  have l2 : (prS2 s).1.length ≤ 10000000 := by have := pNum_le 4 (prS1 s); unfold prS2; omega
  have l3 : (prS3 s).1.length ≤ 10000000 := by have := pNum_le 1 (prS2 s); unfold prS3; omega
  have l4 : (prS4 s).1.length ≤ 10000000 := by have := pTk_le 32 (prS3 s); unfold prS4; omega
  have l5 : (prS5 s).1.length ≤ 10000000 := by have := pNum_le 1 (prS4 s); unfold prS5; omega
  have l6 : (prS6 s).1.length ≤ 10000000 := by have : (prLeaf (prK s) (prS5 s)).2.1.length ≤ (prS5 s).1.length := (by unfold prLeaf; split; exact pNode_le _; exact Nat.le_refl _); unfold prS6; omega
  have l7 : (prS7 s).1.length ≤ 10000000 := by have : (prStart (prK s) (prS6 s)).2.1.length ≤ (prS6 s).1.length := (by unfold prStart; split; exact pTk_le _ _; exact Nat.le_refl _); unfold prS7; omega
  have l8 : (prS8 s).1.length ≤ 10000000 := by have : (prAt (prK s) (prS7 s)).2.1.length ≤ (prS7 s).1.length := (by unfold prAt; split; exact pNum_le _ _; exact Nat.le_refl _); unfold prS8; omega
  have hok := prV_ok s
  obtain ⟨K, hK⟩ : ∃ K, K = prK s := ⟨_, rfl⟩
  obtain ⟨V, hV⟩ : ∃ V, V = prV s := ⟨_, rfl⟩
  obtain ⟨s1, hs1⟩ : ∃ t, t = prS1 s := ⟨_, rfl⟩
  obtain ⟨s2, hs2⟩ : ∃ t, t = prS2 s := ⟨_, rfl⟩
  obtain ⟨s3, hs3⟩ : ∃ t, t = prS3 s := ⟨_, rfl⟩
  obtain ⟨s4, hs4⟩ : ∃ t, t = prS4 s := ⟨_, rfl⟩
  obtain ⟨s5, hs5⟩ : ∃ t, t = prS5 s := ⟨_, rfl⟩
  obtain ⟨s6, hs6⟩ : ∃ t, t = prS6 s := ⟨_, rfl⟩
  obtain ⟨s7, hs7⟩ : ∃ t, t = prS7 s := ⟨_, rfl⟩
  obtain ⟨s8, hs8⟩ : ∃ t, t = prS8 s := ⟨_, rfl⟩
  obtain ⟨s9, hs9⟩ : ∃ t, t = prS9 s := ⟨_, rfl⟩
  rw [pProp, ← hV, ← hs9]
  rw [← hV] at hok
  rw [← hs1] at l1
  rw [← hs2] at l2
  rw [← hs3] at l3
  rw [← hs4] at l4
  rw [← hs5] at l5
  rw [← hs6] at l6
  rw [← hs7] at l7
  rw [← hs8] at l8
  have v1 : (pTk 32 s).1 = V.grp := by rw [hV, prV_grp]
  have v2 : ((pNum 4 s1).1 : Int) = V.ep := by rw [hV, prV_ep, hs1]
  have v3 : ((pNum 1 s2).1 : Int) = V.frm := by rw [hV, prV_frm, hs2]
  have v4 : (pTk 32 s3).1 = V.base := by rw [hV, prV_base, hs3]
  have v5 : ((pNum 1 s4).1 : Int) = V.kind := by rw [hV, prV_kind, hs4, prK]
  have vk : V.kind = (K : Int) := by rw [hV, prV_kind, hK]
  have v6 : prLeaf K s5 = (V.leaf, s6) := by rw [hV, prV_leaf, hs6, prS6, hK, hs5]
  have v7 : prStart K s6 = (V.start, s7) := by rw [hV, prV_start, hs7, prS7, hK, hs6]
  have v8 : prAt K s7 = ((prAt K s7).1, s8) := by rw [hs8, prS8, hK, hs7]
  have v8' : ((prAt K s7).1 : Int) = V.at_ := by rw [hV, prV_at, hK, hs7]
  have v9 : (pTk 64 s8).1 = V.sig := by rw [hV, prV_sig, hs8]
  have u1 : (pTk 32 s).2 = s1 := by rw [hs1, prS1]
  have u2 : (pNum 4 s1).2 = s2 := by rw [hs2, prS2, hs1]
  have u3 : (pNum 1 s2).2 = s3 := by rw [hs3, prS3, hs2]
  have u4 : (pTk 32 s3).2 = s4 := by rw [hs4, prS4, hs3]
  have u5 : (pNum 1 s4).2 = s5 := by rw [hs5, prS5, hs4]
  have u9 : (pTk 64 s8).2 = s9 := by rw [hs9, prS9, hs8]
  have C1 := Lib.hid (fun (W : World) (h : Rin W B g s (K0 + 0)) => (show Calls Try.prog 93 #[.pointer (some ⟨g, 0, none⟩)] W fun e w' => e = .returned (.agg (V.grp.map b8).toArray) ∧ Rin w' B g s1 (K0 + 1) ∧ W.grownBy w' (some g) by rw [← v1, ← u1]; exact rsum_any h (by omega) (by omega)))
  have C2 := Lib.hid (fun (W : World) (h : Rin W B g s1 (K0 + 1)) => (show Calls Try.prog 94 #[.pointer (some ⟨g, 0, none⟩), .int .i64 4] W fun e w' => e = .returned (.int .i64 V.ep) ∧ Rin w' B g s2 (K0 + 2) ∧ W.grownBy w' (some g) by rw [← v2, ← u2]; exact rnum_any h 4 4 rfl (by omega) (by omega) (by omega)))
  have C3 := Lib.hid (fun (W : World) (h : Rin W B g s2 (K0 + 2)) => (show Calls Try.prog 94 #[.pointer (some ⟨g, 0, none⟩), .int .i64 1] W fun e w' => e = .returned (.int .i64 V.frm) ∧ Rin w' B g s3 (K0 + 3) ∧ W.grownBy w' (some g) by rw [← v3, ← u3]; exact rnum_any h 1 1 rfl (by omega) (by omega) (by omega)))
  have C4 := Lib.hid (fun (W : World) (h : Rin W B g s3 (K0 + 3)) => (show Calls Try.prog 93 #[.pointer (some ⟨g, 0, none⟩)] W fun e w' => e = .returned (.agg (V.base.map b8).toArray) ∧ Rin w' B g s4 (K0 + 4) ∧ W.grownBy w' (some g) by rw [← v4, ← u4]; exact rsum_any h (by omega) (by omega)))
  have C5 := Lib.hid (fun (W : World) (h : Rin W B g s4 (K0 + 4)) => (show Calls Try.prog 94 #[.pointer (some ⟨g, 0, none⟩), .int .i64 1] W fun e w' => e = .returned (.int .i64 V.kind) ∧ Rin w' B g s5 (K0 + 5) ∧ W.grownBy w' (some g) by rw [← v5, ← u5]; exact rnum_any h 1 1 rfl (by omega) (by omega) (by omega)))
  have C9 := Lib.hid (fun (W : World) (h : Rin W B g s8 (K0 + 14)) => (show Calls Try.prog 96 #[.pointer (some ⟨g, 0, none⟩)] W fun e w' => e = .returned (.agg (V.sig.map b8).toArray) ∧ Rin w' B g s9 (K0 + 15) ∧ W.grownBy w' (some g) by rw [← v9, ← u9]; exact rwide_any h (by omega) (by omega)))
  have HOk := Lib.hid hok
  have HOg := Lib.hid hok.grp
  have HOb := Lib.hid hok.base
  obtain ⟨k, hk⟩ : ∃ k, k = V.kind := ⟨_, rfl⟩
  have HBu := Lib.hid (built_rProp V.grp hok.grp)
  rw [← hk] at C5
  have hkK : k = (K : Int) := by rw [hk, vk]
  have HKk := Lib.hid hk
  have hgl := hE.lt
  have HE0 := Lib.hid (hE.below ((Below.refl w.heap.size w).alloc (Nat.le_refl _) (.cells Try.zeroCells71 71)) (Nat.le_refl _))
  have HP0 := Lib.hid (Blk.new w 71 zPropL)
  have HG0 := Lib.hid (World.grownBy_alloc w (.cells Try.zeroCells71 71) (some g))
  clear hE hV hs1 hs2 hs3 hs4 hs5 hs6 hs7 hs8 hs9 v1 v2 v3 v4 v5 vk v9 u1 u2 u3 u4 u5 u9 hy l0 l1 l2 l3 l4 hK hk
  clear hok
  have V6 := Lib.hid v6
  have V7 := Lib.hid v7
  have V8 := Lib.hid v8
  have V8' := Lib.hid v8'
  have HkK := Lib.hid hkK
  clear v6 v7 v8 v8' hkK
  go_enter Try.func92, Try.ntmps92
  go_wp2_with fail
  generalize hW1 : World.alloc w _ = w1
  have HE1 := Lib.hid (show Rin w1 B g s (K0 + 0) by rw [← hW1]; exact HE0.out)
  have HP1 := Lib.hid (show Blk w1 w.heap.size 71 zPropL by rw [← hW1]; exact HP0.out)
  have HG1 := Lib.hid (show w.grownBy w1 (some g) by rw [← hW1]; exact HG0.out)
  have hq1 : w.heap.size + 1 ≤ w1.heap.size := by rw [← hW1]; simp
  clear hW1 HE0 HP0 HG0
  refine (C1.out _ HE1.out).mono ?_
  rintro e w2 ⟨rfl, he2, hg2⟩
  have HE2 := Lib.hid he2
  have HP2 := Lib.hid (HP1.out.grown hg2 (by intro e; have := Option.some.inj e; omega))
  have HG2 := Lib.hid (grownBy_trans HG1.out hg2 (fun _ e => .inl e))
  have hq2 := Nat.le_trans hq1 hg2.size
  clear he2 HE1 HP1 HG1
  clear hg2 C1
  have HXl := Lib.hid (show (propC ⟨V.grp, 0, 0, zero32, 0, zNode, zero32, 0, zSig⟩ none 0).length = 263 by simp [propC, HOg.out, nodeC_len zNode_ok, zero32_len, zSig])
  go_wp2_with (first
    | (refine wpList_build_at rfl 71 [(0, .tmp 5)] rfl _ _ rfl HBu.out ?_)
    | (refine wpList_store_blk rfl 71 _ _ rfl w2.heap.size rfl (propC ⟨V.grp, 0, 0, zero32, 0, zNode, zero32, 0, zSig⟩ none 0) rfl _ _ (Blk.new w2 71 zPropL) (by rw [zPropL_len, HXl.out]) (by rw [HXl.out]; exact infoProp) (propC_one _ _ _) ?_; intro w3 hp3 hg3; have HX3 := Lib.hid hp3; have HG3' := Lib.hid hg3; clear hp3 hg3))
  have hb3 : Below w2.heap.size w2 w3 := below_box HG3'.out
  obtain ⟨gx, hgx⟩ : ∃ gx, gx = w2.heap.size := ⟨_, rfl⟩
  have hggx : g < gx := by have := HE2.out.lt; omega
  have hPgx : w.heap.size < gx := by omega
  have HE3 := Lib.hid (HE2.out.below hb3 (Nat.le_refl _))
  have HP3 := Lib.hid (HP2.out.below hb3 (by omega))
  have HG3 := Lib.hid (grown_below HG2.out (hb3.mono (by omega)))
  rw [← hgx] at HX3 ⊢
  have hq3 : gx + 1 ≤ w3.heap.size := by have := HX3.out.lt; omega
  clear hb3 HG3' HE2 HP2 HG2 hgx HXl HBu hq1 hq2
  refine (C2.out _ HE3.out).mono ?_
  rintro e w4 ⟨rfl, he4, hg4⟩
  have HX4 := Lib.hid (HX3.out.grown hg4 (by intro e; have := Option.some.inj e; omega))
  have HE4 := Lib.hid he4
  have HP4 := Lib.hid (HP3.out.grown hg4 (by intro e; have := Option.some.inj e; omega))
  have HG4 := Lib.hid (grownBy_trans HG3.out hg4 (fun _ e => .inl e))
  have hq4 := Nat.le_trans hq3 hg4.size
  clear he4 HE3 HP3 HG3
  clear hg4 HX3 C2
  have c1 := HX4.out.one (pre := V.grp.map b8) (post := .int .i64 0 :: (zero32.map b8 ++ (.int .i64 0 :: (nodeC zNode none 0 ++ (zero32.map b8 ++ (.int .i64 0 :: zSig.map b8)))))) (u := .int .i64 0) (o := 32) (by simp [propC]) (by simp [HOg.out, HOb.out, zero32_len, nodeC_len zNode_ok])
  have f1 := HX4.out.frozen 32
  have hx5 := (HX4.out.put_one (pre := V.grp.map b8) (post := .int .i64 0 :: (zero32.map b8 ++ (.int .i64 0 :: (nodeC zNode none 0 ++ (zero32.map b8 ++ (.int .i64 0 :: zSig.map b8)))))) (u := .int .i64 0) (o := 32) (by simp [propC]) (by simp [HOg.out, HOb.out, zero32_len, nodeC_len zNode_ok]) (.int .i64 V.ep)).cast (show _ = propC ⟨V.grp, V.ep, 0, zero32, 0, zNode, zero32, 0, zSig⟩ none 0 by simp [propC])
  have hg5 := grownBy_set w4 gx 32 (.int .i64 V.ep)
  go_wp2_with fail
  generalize w4.setCell ⟨gx, 32, none⟩ (.int .i64 V.ep) = w5 at hx5 hg5 ⊢
  have HX5 := Lib.hid hx5
  have HE5 := Lib.hid (HE4.out.grown hg5 (by omega) (by omega))
  have HP5 := Lib.hid (HP4.out.grown hg5 (by intro e; have := Option.some.inj e; omega))
  have HG5 := Lib.hid (grownBy_trans HG4.out hg5 (fun k e => .inr (by cases e; omega)))
  have hq5 := Nat.le_trans hq4 hg5.size
  clear hx5 HE4 HP4 HG4 HX4
  clear c1 f1 hg5
  refine (C3.out _ HE5.out).mono ?_
  rintro e w6 ⟨rfl, he6, hg6⟩
  have HX6 := Lib.hid (HX5.out.grown hg6 (by intro e; have := Option.some.inj e; omega))
  have HE6 := Lib.hid he6
  have HP6 := Lib.hid (HP5.out.grown hg6 (by intro e; have := Option.some.inj e; omega))
  have HG6 := Lib.hid (grownBy_trans HG5.out hg6 (fun _ e => .inl e))
  have hq6 := Nat.le_trans hq5 hg6.size
  clear he6 HE5 HP5 HG5
  clear hg6 HX5 C3
  have c1 := HX6.out.one (pre := V.grp.map b8 ++ [.int .i64 V.ep]) (post := zero32.map b8 ++ (.int .i64 0 :: (nodeC zNode none 0 ++ (zero32.map b8 ++ (.int .i64 0 :: zSig.map b8))))) (u := .int .i64 0) (o := 33) (by simp [propC]) (by simp [HOg.out, HOb.out, zero32_len, nodeC_len zNode_ok])
  have f1 := HX6.out.frozen 33
  have hx7 := (HX6.out.put_one (pre := V.grp.map b8 ++ [.int .i64 V.ep]) (post := zero32.map b8 ++ (.int .i64 0 :: (nodeC zNode none 0 ++ (zero32.map b8 ++ (.int .i64 0 :: zSig.map b8))))) (u := .int .i64 0) (o := 33) (by simp [propC]) (by simp [HOg.out, HOb.out, zero32_len, nodeC_len zNode_ok]) (.int .i64 V.frm)).cast (show _ = propC ⟨V.grp, V.ep, V.frm, zero32, 0, zNode, zero32, 0, zSig⟩ none 0 by simp [propC])
  have hg7 := grownBy_set w6 gx 33 (.int .i64 V.frm)
  go_wp2_with fail
  generalize w6.setCell ⟨gx, 33, none⟩ (.int .i64 V.frm) = w7 at hx7 hg7 ⊢
  have HX7 := Lib.hid hx7
  have HE7 := Lib.hid (HE6.out.grown hg7 (by omega) (by omega))
  have HP7 := Lib.hid (HP6.out.grown hg7 (by intro e; have := Option.some.inj e; omega))
  have HG7 := Lib.hid (grownBy_trans HG6.out hg7 (fun k e => .inr (by cases e; omega)))
  have hq7 := Nat.le_trans hq6 hg7.size
  clear hx7 HE6 HP6 HG6 HX6
  clear c1 f1 hg7
  refine (C4.out _ HE7.out).mono ?_
  rintro e w8 ⟨rfl, he8, hg8⟩
  have HX8 := Lib.hid (HX7.out.grown hg8 (by intro e; have := Option.some.inj e; omega))
  have HE8 := Lib.hid he8
  have HP8 := Lib.hid (HP7.out.grown hg8 (by intro e; have := Option.some.inj e; omega))
  have HG8 := Lib.hid (grownBy_trans HG7.out hg8 (fun _ e => .inl e))
  have hq8 := Nat.le_trans hq7 hg8.size
  clear he8 HE7 HP7 HG7
  clear hg8 HX7 C4
  go_wp2_with (refine wpList_store_piece rfl 23 _ _ rfl gx 34 rfl (V.base.map b8) rfl 71 _ (V.grp.map b8 ++ [.int .i64 V.ep, .int .i64 V.frm]) (zero32.map b8) (.int .i64 0 :: (nodeC zNode none 0 ++ (zero32.map b8 ++ (.int .i64 0 :: zSig.map b8)))) HX8.out (by simp [propC]) (by simp [HOg.out]) (by rw [List.length_map, List.length_map, HOb.out]; rfl) (by rw [List.length_map, HOb.out]; exact infoSumS) (b8s_one _) ?_; intro w9 hp9 hg9; have hx9 := hp9.cast (show _ = propC ⟨V.grp, V.ep, V.frm, V.base, 0, zNode, zero32, 0, zSig⟩ none 0 by simp [propC]); clear hp9)
  have HX9 := Lib.hid hx9
  have HE9 := Lib.hid (HE8.out.grown hg9 (by omega) (by omega))
  have HP9 := Lib.hid (HP8.out.grown hg9 (by intro e; have := Option.some.inj e; omega))
  have HG9 := Lib.hid (grownBy_trans HG8.out hg9 (fun k e => .inr (by cases e; omega)))
  have hq9 := Nat.le_trans hq8 hg9.size
  clear hx9 HE8 HP8 HG8 HX8
  clear hg9
  refine (C5.out _ HE9.out).mono ?_
  rintro e w10 ⟨rfl, he10, hg10⟩
  have HX10 := Lib.hid (HX9.out.grown hg10 (by intro e; have := Option.some.inj e; omega))
  have HE10 := Lib.hid he10
  have HP10 := Lib.hid (HP9.out.grown hg10 (by intro e; have := Option.some.inj e; omega))
  have HG10 := Lib.hid (grownBy_trans HG9.out hg10 (fun _ e => .inl e))
  have hq10 := Nat.le_trans hq9 hg10.size
  clear he10 HE9 HP9 HG9
  clear hg10 HX9 C5
  have c1 := HX10.out.one (pre := V.grp.map b8 ++ (.int .i64 V.ep :: .int .i64 V.frm :: V.base.map b8)) (post := nodeC zNode none 0 ++ (zero32.map b8 ++ (.int .i64 0 :: zSig.map b8))) (u := .int .i64 0) (o := 66) (by simp [propC]) (by simp [HOg.out, HOb.out, zero32_len, nodeC_len zNode_ok])
  have f1 := HX10.out.frozen 66
  have hx11 := (HX10.out.put_one (pre := V.grp.map b8 ++ (.int .i64 V.ep :: .int .i64 V.frm :: V.base.map b8)) (post := nodeC zNode none 0 ++ (zero32.map b8 ++ (.int .i64 0 :: zSig.map b8))) (u := .int .i64 0) (o := 66) (by simp [propC]) (by simp [HOg.out, HOb.out, zero32_len, nodeC_len zNode_ok]) (.int .i64 k)).cast (show _ = propC ⟨V.grp, V.ep, V.frm, V.base, k, zNode, zero32, 0, zSig⟩ none 0 by simp [propC])
  have hg11 := grownBy_set w10 gx 66 (.int .i64 k)
  have c66 := propK hx11 HOg.out HOb.out
  by_cases hk1 : k = 1
  · subst hk1
    have hK1 : K = 1 := by have := HkK.out; omega
    have hN : pNode s5 = (V.leaf, s6) := by have := V6.out; rw [hK1] at this; unfold prLeaf at this; rwa [if_pos (.inl rfl)] at this
    have hT : pTk 32 s6 = (V.start, s7) := by have := V7.out; rw [hK1] at this; unfold prStart at this; rwa [if_pos rfl] at this
    have h8 : s8 = s7 := by have := V8.out; rw [hK1] at this; unfold prAt at this; rw [if_neg (by omega)] at this; injection this with _ h; exact h.symm
    have ha0 : V.at_ = 0 := by have := V8'.out; rw [hK1] at this; unfold prAt at this; rw [if_neg (by omega)] at this; exact this.symm
    subst h8
    have HN := Lib.hid hN
    have HT := Lib.hid hT
    have HA0 := Lib.hid ha0
    clear hN hT ha0 hK1
    go_wp2_with fail
    generalize w10.setCell ⟨gx, 66, none⟩ (.int .i64 1) = w11 at hx11 hg11 c66 ⊢
    have HX11 := Lib.hid hx11
    have HE11 := Lib.hid (HE10.out.grown hg11 (by omega) (by omega))
    have HP11 := Lib.hid (HP10.out.grown hg11 (by intro e; have := Option.some.inj e; omega))
    have HG11 := Lib.hid (grownBy_trans HG10.out hg11 (fun k e => .inr (by cases e; omega)))
    have hq11 := Nat.le_trans hq10 hg11.size
    clear hx11 HE10 HP10 HG10 HX10
    clear c1 f1 hg11
    have hnode := rnode_any HE11.out l5 (by omega)
    rw [HN.out] at hnode
    refine hnode.mono ?_
    clear hnode
    rintro e w12 ⟨A8, c8, rfl, ho12, he12, hg12⟩
    have HX12 := Lib.hid (HX11.out.grown hg12 (by intro e; have := Option.some.inj e; omega))
    have HE12 := Lib.hid he12
    have HP12 := Lib.hid (HP11.out.grown hg12 (by intro e; have := Option.some.inj e; omega))
    have HG12 := Lib.hid (grownBy_trans HG11.out hg12 (fun _ e => .inl e))
    have hq12 := Nat.le_trans hq11 hg12.size
    clear he12 HE11 HP11 HG11
    have HO12 := Lib.hid ho12
    clear hg12 ho12 HX11
    go_wp2_with (refine wpList_store_piece rfl 50 _ _ rfl gx 67 rfl (nodeC V.leaf A8 c8) rfl 71 _ (V.grp.map b8 ++ (.int .i64 V.ep :: .int .i64 V.frm :: (V.base.map b8 ++ [.int .i64 1]))) (nodeC zNode none 0) (zero32.map b8 ++ (.int .i64 0 :: zSig.map b8)) HX12.out (by simp [propC]) (by simp [HOg.out, HOb.out]) (by rw [nodeC_len HOk.out.leaf, nodeC_len zNode_ok]) (by rw [nodeC_len HOk.out.leaf]; exact infoNode) (nodeC_one _ _ _) ?_; intro w13 hp13 hg13; have hx13 := hp13.cast (show _ = propC ⟨V.grp, V.ep, V.frm, V.base, 1, V.leaf, zero32, 0, zSig⟩ A8 c8 by simp [propC]); have c66b := propK hx13 HOg.out HOb.out; clear hp13)
    have HX13 := Lib.hid hx13
    have HE13 := Lib.hid (HE12.out.grown hg13 (by omega) (by omega))
    have HP13 := Lib.hid (HP12.out.grown hg13 (by intro e; have := Option.some.inj e; omega))
    have HG13 := Lib.hid (grownBy_trans HG12.out hg13 (fun k e => .inr (by cases e; omega)))
    have hq13 := Nat.le_trans hq12 hg13.size
    clear hx13 HE12 HP12 HG12 HX12
    have HO13 := Lib.hid (HO12.out.kept hg13 (.inr (fun e => by have := (HO12.out.lt _ e).1; omega)))
    clear hg13 HO12
    have C7 := rkey_any HE13.out (by omega) (by omega)
    rw [HT.out] at C7
    refine C7.mono ?_
    clear C7
    rintro e w14 ⟨rfl, he14, hg14⟩
    have HX14 := Lib.hid (HX13.out.grown hg14 (by intro e; have := Option.some.inj e; omega))
    have HE14 := Lib.hid he14
    have HP14 := Lib.hid (HP13.out.grown hg14 (by intro e; have := Option.some.inj e; omega))
    have HG14 := Lib.hid (grownBy_trans HG13.out hg14 (fun _ e => .inl e))
    have hq14 := Nat.le_trans hq13 hg14.size
    clear he14 HE13 HP13 HG13
    have HO14 := Lib.hid (HO13.out.kept hg14 (.inr (fun e => by have := (HO13.out.lt _ e).1; omega)))
    clear hg14 HX13 HO13 c66 c66b
    go_wp2_with (refine wpList_store_piece rfl 47 _ _ rfl gx 166 rfl (V.start.map b8) rfl 71 _ (V.grp.map b8 ++ (.int .i64 V.ep :: .int .i64 V.frm :: (V.base.map b8 ++ (.int .i64 1 :: nodeC V.leaf A8 c8)))) (zero32.map b8) (.int .i64 0 :: zSig.map b8) HX14.out (by simp [propC]) (by simp [HOg.out, HOb.out, nodeC_len HOk.out.leaf]) (by rw [List.length_map, List.length_map, HOk.out.start, zero32_len]) (by rw [List.length_map, HOk.out.start]; exact infoKeyS) (b8s_one _) ?_; intro wn hpn hg15; have hx15 := hpn.cast (show _ = propC ⟨V.grp, V.ep, V.frm, V.base, 1, V.leaf, V.start, 0, zSig⟩ A8 c8 by simp [propC]); have c66c := propK hx15 HOg.out HOb.out; clear hpn)
    have HXn := Lib.hid (hx15.cast (show _ = propC ⟨V.grp, V.ep, V.frm, V.base, V.kind, V.leaf, V.start, V.at_, zSig⟩ A8 c8 by rw [← HKk.out, HA0.out]))
    have HEn := Lib.hid (HE14.out.grown hg15 (by omega) (by omega))
    have HPn := Lib.hid (HP14.out.grown hg15 (by intro e; have := Option.some.inj e; omega))
    have HGn := Lib.hid (grownBy_trans HG14.out hg15 (fun k e => .inr (by cases e; omega)))
    have HOn := Lib.hid (HO14.out.kept hg15 (.inr (fun e => by have := (HO14.out.lt _ e).1; omega)))
    have hqn := Nat.le_trans hq14 hg15.size
    clear hx15 hg15 c66c HE14 HX14 HP14 HG14 HO14
    have HVl := Lib.hid (show (propC V A8 c8).length = 263 from propC_len HOk.out _ _)
    refine (C9.out _ (HEn.out.more (by omega))).mono ?_
    rintro e wa ⟨rfl, hea, hga⟩
    have HEa := Lib.hid hea
    have HPa := Lib.hid (HPn.out.grown hga (by intro e; have := Option.some.inj e; omega))
    have HXa := Lib.hid (HXn.out.grown hga (by intro e; have := Option.some.inj e; omega))
    have HGa := Lib.hid (grownBy_trans HGn.out hga (fun _ e => .inl e))
    have HOa := Lib.hid (HOn.out.kept hga (.inr (fun e => by have := (HOn.out.lt _ e).1; omega)))
    have hqa := Nat.le_trans hqn hga.size
    clear hea hga HEn HPn HXn HGn HOn C9
    go_wp2_with (first
      | (refine wpList_store_piece rfl 62 _ _ rfl gx 199 rfl (V.sig.map b8) rfl 71 _ (V.grp.map b8 ++ (.int .i64 V.ep :: .int .i64 V.frm :: (V.base.map b8 ++ (.int .i64 V.kind :: (nodeC V.leaf A8 c8 ++ (V.start.map b8 ++ [.int .i64 V.at_])))))) (zSig.map b8) [] HXa.out (by simp [propC]) (by simp [HOg.out, HOb.out, HOk.out.start, nodeC_len HOk.out.leaf]) (by rw [List.length_map, List.length_map, HOk.out.sig]; rfl) (by rw [List.length_map, HOk.out.sig]; exact infoWideS) (b8s_one _) ?_; intro wb hpb hgb; have HXb := Lib.hid (hpb.cast (show _ = propC V A8 c8 by simp [propC])); have HGb := Lib.hid hgb; have HPb := Lib.hid (HPa.out.grown hgb (by intro e; have := Option.some.inj e; omega)); clear hpb hgb)
      | (refine wpList_load_mid rfl 71 (.tmp 3) rfl gx 0 rfl (propC V A8 c8) _ (Blk.whole HXb.out) Try.underlying71 rfl (by rw [HVl.out]; exact infoProp) ?_)
      | (refine wpList_store_blk rfl 71 _ _ rfl w.heap.size rfl (propC V A8 c8) rfl _ _ HPb.out (by rw [zPropL_len, HVl.out]) (by rw [HVl.out]; exact infoProp) (propC_one _ _ _) ?_; intro wc hpc hgc; have HPc := Lib.hid hpc; have HGc := Lib.hid hgc; clear hpc hgc))
    refine bodyPost_ret (results_blk (g := w.heap.size) rfl _ _ _ _ _ rfl HPc.out Try.underlying71 rfl (by rw [HVl.out]; exact infoProp)) rfl ?_
    refine ⟨A8, c8, rfl, ?_, (((HEa.out.grown HGb.out (by omega) (by omega)).grown HGc.out (by omega) hgl).more (by omega)), grownBy_trans (grownBy_trans HGa.out HGb.out (fun _ e => .inr (by cases e; omega))) HGc.out (fun _ e => .inr (by cases e; exact Nat.le_refl _))⟩
    exact ((HOa.out.kept HGb.out (.inr (fun e => by have := (HOa.out.lt _ e).1; omega))).kept HGc.out (.inr (fun e => by have := (HOa.out.lt _ e).1; omega))).less (by omega)
  by_cases hk2 : k = 2
  · subst hk2
    have hK1 : K = 2 := by have := HkK.out; omega
    have hN : pNode s5 = (V.leaf, s6) := by have := V6.out; rw [hK1] at this; unfold prLeaf at this; rwa [if_pos (.inr rfl)] at this
    have hT : (zero32, s6) = (V.start, s7) := by have := V7.out; rw [hK1] at this; unfold prStart at this; rwa [if_neg (by omega)] at this
    have h8 : s8 = s7 := by have := V8.out; rw [hK1] at this; unfold prAt at this; rw [if_neg (by omega)] at this; injection this with _ h; exact h.symm
    have ha0 : V.at_ = 0 := by have := V8'.out; rw [hK1] at this; unfold prAt at this; rw [if_neg (by omega)] at this; exact this.symm
    obtain ⟨hst, h7⟩ := Prod.mk.inj hT
    subst h8 h7
    have HN := Lib.hid hN
    have HST := Lib.hid hst
    have HA0 := Lib.hid ha0
    clear hN hst ha0 hK1 hk1 hT
    go_wp2_with fail
    generalize w10.setCell ⟨gx, 66, none⟩ (.int .i64 2) = w11 at hx11 hg11 c66 ⊢
    have HX11 := Lib.hid hx11
    have HE11 := Lib.hid (HE10.out.grown hg11 (by omega) (by omega))
    have HP11 := Lib.hid (HP10.out.grown hg11 (by intro e; have := Option.some.inj e; omega))
    have HG11 := Lib.hid (grownBy_trans HG10.out hg11 (fun k e => .inr (by cases e; omega)))
    have hq11 := Nat.le_trans hq10 hg11.size
    clear hx11 HE10 HP10 HG10 HX10
    clear c1 f1 hg11
    have hnode := rnode_any HE11.out l5 (by omega)
    rw [HN.out] at hnode
    refine hnode.mono ?_
    clear hnode
    rintro e w12 ⟨A8, c8, rfl, ho12, he12, hg12⟩
    have HX12 := Lib.hid (HX11.out.grown hg12 (by intro e; have := Option.some.inj e; omega))
    have HE12 := Lib.hid he12
    have HP12 := Lib.hid (HP11.out.grown hg12 (by intro e; have := Option.some.inj e; omega))
    have HG12 := Lib.hid (grownBy_trans HG11.out hg12 (fun _ e => .inl e))
    have hq12 := Nat.le_trans hq11 hg12.size
    clear he12 HE11 HP11 HG11
    have HO12 := Lib.hid ho12
    clear hg12 ho12 HX11
    go_wp2_with (refine wpList_store_piece rfl 50 _ _ rfl gx 67 rfl (nodeC V.leaf A8 c8) rfl 71 _ (V.grp.map b8 ++ (.int .i64 V.ep :: .int .i64 V.frm :: (V.base.map b8 ++ [.int .i64 2]))) (nodeC zNode none 0) (zero32.map b8 ++ (.int .i64 0 :: zSig.map b8)) HX12.out (by simp [propC]) (by simp [HOg.out, HOb.out]) (by rw [nodeC_len HOk.out.leaf, nodeC_len zNode_ok]) (by rw [nodeC_len HOk.out.leaf]; exact infoNode) (nodeC_one _ _ _) ?_; intro w13 hp13 hg13; have hx13 := hp13.cast (show _ = propC ⟨V.grp, V.ep, V.frm, V.base, 2, V.leaf, zero32, 0, zSig⟩ A8 c8 by simp [propC]); have c66b := propK hx13 HOg.out HOb.out; clear hp13)
    have HXn := Lib.hid (hx13.cast (show _ = propC ⟨V.grp, V.ep, V.frm, V.base, V.kind, V.leaf, V.start, V.at_, zSig⟩ A8 c8 by rw [← HKk.out, HA0.out, ← HST.out]))
    have HEn := Lib.hid (HE12.out.grown hg13 (by omega) (by omega))
    have HPn := Lib.hid (HP12.out.grown hg13 (by intro e; have := Option.some.inj e; omega))
    have HGn := Lib.hid (grownBy_trans HG12.out hg13 (fun k e => .inr (by cases e; omega)))
    have HOn := Lib.hid (HO12.out.kept hg13 (.inr (fun e => by have := (HO12.out.lt _ e).1; omega)))
    have hqn := Nat.le_trans hq12 hg13.size
    clear hx13 hg13 c66 c66b HE12 HX12 HP12 HG12 HO12
    have HVl := Lib.hid (show (propC V A8 c8).length = 263 from propC_len HOk.out _ _)
    refine (C9.out _ (HEn.out.more (by omega))).mono ?_
    rintro e wa ⟨rfl, hea, hga⟩
    have HEa := Lib.hid hea
    have HPa := Lib.hid (HPn.out.grown hga (by intro e; have := Option.some.inj e; omega))
    have HXa := Lib.hid (HXn.out.grown hga (by intro e; have := Option.some.inj e; omega))
    have HGa := Lib.hid (grownBy_trans HGn.out hga (fun _ e => .inl e))
    have HOa := Lib.hid (HOn.out.kept hga (.inr (fun e => by have := (HOn.out.lt _ e).1; omega)))
    have hqa := Nat.le_trans hqn hga.size
    clear hea hga HEn HPn HXn HGn HOn C9
    go_wp2_with (first
      | (refine wpList_store_piece rfl 62 _ _ rfl gx 199 rfl (V.sig.map b8) rfl 71 _ (V.grp.map b8 ++ (.int .i64 V.ep :: .int .i64 V.frm :: (V.base.map b8 ++ (.int .i64 V.kind :: (nodeC V.leaf A8 c8 ++ (V.start.map b8 ++ [.int .i64 V.at_])))))) (zSig.map b8) [] HXa.out (by simp [propC]) (by simp [HOg.out, HOb.out, HOk.out.start, nodeC_len HOk.out.leaf]) (by rw [List.length_map, List.length_map, HOk.out.sig]; rfl) (by rw [List.length_map, HOk.out.sig]; exact infoWideS) (b8s_one _) ?_; intro wb hpb hgb; have HXb := Lib.hid (hpb.cast (show _ = propC V A8 c8 by simp [propC])); have HGb := Lib.hid hgb; have HPb := Lib.hid (HPa.out.grown hgb (by intro e; have := Option.some.inj e; omega)); clear hpb hgb)
      | (refine wpList_load_mid rfl 71 (.tmp 3) rfl gx 0 rfl (propC V A8 c8) _ (Blk.whole HXb.out) Try.underlying71 rfl (by rw [HVl.out]; exact infoProp) ?_)
      | (refine wpList_store_blk rfl 71 _ _ rfl w.heap.size rfl (propC V A8 c8) rfl _ _ HPb.out (by rw [zPropL_len, HVl.out]) (by rw [HVl.out]; exact infoProp) (propC_one _ _ _) ?_; intro wc hpc hgc; have HPc := Lib.hid hpc; have HGc := Lib.hid hgc; clear hpc hgc))
    refine bodyPost_ret (results_blk (g := w.heap.size) rfl _ _ _ _ _ rfl HPc.out Try.underlying71 rfl (by rw [HVl.out]; exact infoProp)) rfl ?_
    refine ⟨A8, c8, rfl, ?_, (((HEa.out.grown HGb.out (by omega) (by omega)).grown HGc.out (by omega) hgl).more (by omega)), grownBy_trans (grownBy_trans HGa.out HGb.out (fun _ e => .inr (by cases e; omega))) HGc.out (fun _ e => .inr (by cases e; exact Nat.le_refl _))⟩
    exact ((HOa.out.kept HGb.out (.inr (fun e => by have := (HOa.out.lt _ e).1; omega))).kept HGc.out (.inr (fun e => by have := (HOa.out.lt _ e).1; omega))).less (by omega)
  by_cases hk3 : k = 3
  · subst hk3
    have hK1 : K = 3 := by have := HkK.out; omega
    have hN : (zNode, s5) = (V.leaf, s6) := by have := V6.out; rw [hK1] at this; unfold prLeaf at this; rwa [if_neg (by omega)] at this
    have hT : (zero32, s6) = (V.start, s7) := by have := V7.out; rw [hK1] at this; unfold prStart at this; rwa [if_neg (by omega)] at this
    have h8 : (pNum 1 s7).2 = s8 := by have := V8.out; rw [hK1] at this; unfold prAt at this; rw [if_pos rfl] at this; rw [this]
    have ha0 : (((pNum 1 s7).1 : Nat) : Int) = V.at_ := by have := V8'.out; rw [hK1] at this; unfold prAt at this; rwa [if_pos rfl] at this
    obtain ⟨hlf, h6⟩ := Prod.mk.inj hN
    obtain ⟨hst, h7⟩ := Prod.mk.inj hT
    subst h6 h7
    have C7 := Lib.hid (fun (W : World) (h : Rin W B g s5 (K0 + 5)) => (show Calls Try.prog 94 #[.pointer (some ⟨g, 0, none⟩), .int .i64 1] W fun e w' => e = .returned (.int .i64 V.at_) ∧ Rin w' B g s8 (K0 + 6) ∧ W.grownBy w' (some g) by rw [← ha0, ← h8]; exact rnum_any h 1 1 rfl (by omega) (by omega) (by omega)))
    have HLF := Lib.hid hlf
    have HST := Lib.hid hst
    clear hN hst ha0 h8 hK1 hk1 hk2 hT hlf
    go_wp2_with fail
    generalize w10.setCell ⟨gx, 66, none⟩ (.int .i64 3) = w11 at hx11 hg11 c66 ⊢
    have HX11 := Lib.hid hx11
    have HE11 := Lib.hid (HE10.out.grown hg11 (by omega) (by omega))
    have HP11 := Lib.hid (HP10.out.grown hg11 (by intro e; have := Option.some.inj e; omega))
    have HG11 := Lib.hid (grownBy_trans HG10.out hg11 (fun k e => .inr (by cases e; omega)))
    have hq11 := Nat.le_trans hq10 hg11.size
    clear hx11 HE10 HP10 HG10 HX10
    clear c1 f1 hg11
    refine (C7.out _ HE11.out).mono ?_
    rintro e w12 ⟨rfl, he12, hg12⟩
    have HX12 := Lib.hid (HX11.out.grown hg12 (by intro e; have := Option.some.inj e; omega))
    have HE12 := Lib.hid he12
    have HP12 := Lib.hid (HP11.out.grown hg12 (by intro e; have := Option.some.inj e; omega))
    have HG12 := Lib.hid (grownBy_trans HG11.out hg12 (fun _ e => .inl e))
    have hq12 := Nat.le_trans hq11 hg12.size
    clear he12 HE11 HP11 HG11
    have c198 := propA HX12.out HOg.out HOb.out zNode_ok zero32_len
    have f198 := HX12.out.frozen 198
    have hx13 := (HX12.out.put_one (pre := V.grp.map b8 ++ (.int .i64 V.ep :: .int .i64 V.frm :: (V.base.map b8 ++ (.int .i64 3 :: (nodeC zNode none 0 ++ zero32.map b8))))) (post := zSig.map b8) (u := .int .i64 0) (o := 198) (by simp [propC]) (by simp [HOg.out, HOb.out, zero32_len, nodeC_len zNode_ok]) (.int .i64 V.at_)).cast (show _ = propC ⟨V.grp, V.ep, V.frm, V.base, V.kind, V.leaf, V.start, V.at_, zSig⟩ none 0 by rw [← HKk.out, ← HLF.out, ← HST.out]; simp [propC])
    have hg13 := grownBy_set w12 gx 198 (.int .i64 V.at_)
    clear hg12 HX11 C7 c66
    go_wp2_with fail
    generalize w12.setCell ⟨gx, 198, none⟩ (.int .i64 V.at_) = wn at hx13 hg13 ⊢
    have HXn := Lib.hid hx13
    have HEn := Lib.hid (HE12.out.grown hg13 (by omega) (by omega))
    have HPn := Lib.hid (HP12.out.grown hg13 (by intro e; have := Option.some.inj e; omega))
    have HGn := Lib.hid (grownBy_trans HG12.out hg13 (fun k e => .inr (by cases e; omega)))
    have HOn := Lib.hid (show Own cI wn w11.heap.size 3 (.slice none V.leaf.um.length 0) V.leaf.um by rw [← HLF.out]; exact Own.nil_ _ _ _ _)
    have hqn := Nat.le_trans hq12 hg13.size
    clear hx13 hg13 c198 f198 HE12 HX12 HP12 HG12
    have HVl := Lib.hid (show (propC V none 0).length = 263 from propC_len HOk.out _ _)
    refine (C9.out _ (HEn.out.more (by omega))).mono ?_
    rintro e wa ⟨rfl, hea, hga⟩
    have HEa := Lib.hid hea
    have HPa := Lib.hid (HPn.out.grown hga (by intro e; have := Option.some.inj e; omega))
    have HXa := Lib.hid (HXn.out.grown hga (by intro e; have := Option.some.inj e; omega))
    have HGa := Lib.hid (grownBy_trans HGn.out hga (fun _ e => .inl e))
    have HOa := Lib.hid (HOn.out.kept hga (.inr (fun e => by have := (HOn.out.lt _ e).1; omega)))
    have hqa := Nat.le_trans hqn hga.size
    clear hea hga HEn HPn HXn HGn HOn C9
    go_wp2_with (first
      | (refine wpList_store_piece rfl 62 _ _ rfl gx 199 rfl (V.sig.map b8) rfl 71 _ (V.grp.map b8 ++ (.int .i64 V.ep :: .int .i64 V.frm :: (V.base.map b8 ++ (.int .i64 V.kind :: (nodeC V.leaf none 0 ++ (V.start.map b8 ++ [.int .i64 V.at_])))))) (zSig.map b8) [] HXa.out (by simp [propC]) (by simp [HOg.out, HOb.out, HOk.out.start, nodeC_len HOk.out.leaf]) (by rw [List.length_map, List.length_map, HOk.out.sig]; rfl) (by rw [List.length_map, HOk.out.sig]; exact infoWideS) (b8s_one _) ?_; intro wb hpb hgb; have HXb := Lib.hid (hpb.cast (show _ = propC V none 0 by simp [propC])); have HGb := Lib.hid hgb; have HPb := Lib.hid (HPa.out.grown hgb (by intro e; have := Option.some.inj e; omega)); clear hpb hgb)
      | (refine wpList_load_mid rfl 71 (.tmp 3) rfl gx 0 rfl (propC V none 0) _ (Blk.whole HXb.out) Try.underlying71 rfl (by rw [HVl.out]; exact infoProp) ?_)
      | (refine wpList_store_blk rfl 71 _ _ rfl w.heap.size rfl (propC V none 0) rfl _ _ HPb.out (by rw [zPropL_len, HVl.out]) (by rw [HVl.out]; exact infoProp) (propC_one _ _ _) ?_; intro wc hpc hgc; have HPc := Lib.hid hpc; have HGc := Lib.hid hgc; clear hpc hgc))
    refine bodyPost_ret (results_blk (g := w.heap.size) rfl _ _ _ _ _ rfl HPc.out Try.underlying71 rfl (by rw [HVl.out]; exact infoProp)) rfl ?_
    refine ⟨none, 0, rfl, ?_, (((HEa.out.grown HGb.out (by omega) (by omega)).grown HGc.out (by omega) hgl).more (by omega)), grownBy_trans (grownBy_trans HGa.out HGb.out (fun _ e => .inr (by cases e; omega))) HGc.out (fun _ e => .inr (by cases e; exact Nat.le_refl _))⟩
    exact ((HOa.out.kept HGb.out (.inr (fun e => by have := (HOa.out.lt _ e).1; omega))).kept HGc.out (.inr (fun e => by have := (HOa.out.lt _ e).1; omega))).less (by omega)
  have f1' : (k == 1) = false := by simp; omega
  have f2' : (k == 2) = false := by simp; omega
  have f3' : (k == 3) = false := by simp; omega
  have hK1 : K ≠ 1 ∧ K ≠ 2 ∧ K ≠ 3 := by have := HkK.out; omega
  have hN : (zNode, s5) = (V.leaf, s6) := by have := V6.out; unfold prLeaf at this; rwa [if_neg (by omega)] at this
  have hT : (zero32, s6) = (V.start, s7) := by have := V7.out; unfold prStart at this; rwa [if_neg (by omega)] at this
  have h8 : s8 = s7 := by have := V8.out; unfold prAt at this; rw [if_neg (by omega)] at this; injection this with _ h; exact h.symm
  have ha0 : V.at_ = 0 := by have := V8'.out; unfold prAt at this; rw [if_neg (by omega)] at this; exact this.symm
  obtain ⟨hlf, h6⟩ := Prod.mk.inj hN
  obtain ⟨hst, h7⟩ := Prod.mk.inj hT
  subst h8 h7 h6
  have HLF := Lib.hid hlf
  have HST := Lib.hid hst
  have HA0 := Lib.hid ha0
  have p1 : (k = 1) = False := by simp [hk1]
  have p2 : (k = 2) = False := by simp [hk2]
  have p3 : (k = 3) = False := by simp [hk3]
  clear hN hst ha0 hK1 hk1 hk2 hk3 hT hlf
  go_wp2_with fail
  generalize w10.setCell ⟨gx, 66, none⟩ (.int .i64 k) = w11 at hx11 hg11 c66 ⊢
  have HX11 := Lib.hid hx11
  have HE11 := Lib.hid (HE10.out.grown hg11 (by omega) (by omega))
  have HP11 := Lib.hid (HP10.out.grown hg11 (by intro e; have := Option.some.inj e; omega))
  have HG11 := Lib.hid (grownBy_trans HG10.out hg11 (fun k e => .inr (by cases e; omega)))
  have hq11 := Nat.le_trans hq10 hg11.size
  clear hx11 HE10 HP10 HG10 HX10
  clear c1 f1 hg11
  have HXn := Lib.hid (HX11.out.cast (show _ = propC ⟨V.grp, V.ep, V.frm, V.base, V.kind, V.leaf, V.start, V.at_, zSig⟩ none 0 by rw [← HKk.out, ← HLF.out, ← HST.out, HA0.out]))
  have HEn := Lib.hid HE11.out
  have HPn := Lib.hid HP11.out
  have HGn := Lib.hid HG11.out
  have HOn := Lib.hid (show Own cI w11 w11.heap.size 3 (.slice none V.leaf.um.length 0) V.leaf.um by rw [← HLF.out]; exact Own.nil_ _ _ _ _)
  have hqn := hq11
  clear HE11 HX11 HP11 HG11 c66
  have HVl := Lib.hid (show (propC V none 0).length = 263 from propC_len HOk.out _ _)
  refine (C9.out _ (HEn.out.more (by omega))).mono ?_
  rintro e wa ⟨rfl, hea, hga⟩
  have HEa := Lib.hid hea
  have HPa := Lib.hid (HPn.out.grown hga (by intro e; have := Option.some.inj e; omega))
  have HXa := Lib.hid (HXn.out.grown hga (by intro e; have := Option.some.inj e; omega))
  have HGa := Lib.hid (grownBy_trans HGn.out hga (fun _ e => .inl e))
  have HOa := Lib.hid (HOn.out.kept hga (.inr (fun e => by have := (HOn.out.lt _ e).1; omega)))
  have hqa := Nat.le_trans hqn hga.size
  clear hea hga HEn HPn HXn HGn HOn C9
  go_wp2_with (first
    | (refine wpList_store_piece rfl 62 _ _ rfl gx 199 rfl (V.sig.map b8) rfl 71 _ (V.grp.map b8 ++ (.int .i64 V.ep :: .int .i64 V.frm :: (V.base.map b8 ++ (.int .i64 V.kind :: (nodeC V.leaf none 0 ++ (V.start.map b8 ++ [.int .i64 V.at_])))))) (zSig.map b8) [] HXa.out (by simp [propC]) (by simp [HOg.out, HOb.out, HOk.out.start, nodeC_len HOk.out.leaf]) (by rw [List.length_map, List.length_map, HOk.out.sig]; rfl) (by rw [List.length_map, HOk.out.sig]; exact infoWideS) (b8s_one _) ?_; intro wb hpb hgb; have HXb := Lib.hid (hpb.cast (show _ = propC V none 0 by simp [propC])); have HGb := Lib.hid hgb; have HPb := Lib.hid (HPa.out.grown hgb (by intro e; have := Option.some.inj e; omega)); clear hpb hgb)
    | (refine wpList_load_mid rfl 71 (.tmp 3) rfl gx 0 rfl (propC V none 0) _ (Blk.whole HXb.out) Try.underlying71 rfl (by rw [HVl.out]; exact infoProp) ?_)
    | (refine wpList_store_blk rfl 71 _ _ rfl w.heap.size rfl (propC V none 0) rfl _ _ HPb.out (by rw [zPropL_len, HVl.out]) (by rw [HVl.out]; exact infoProp) (propC_one _ _ _) ?_; intro wc hpc hgc; have HPc := Lib.hid hpc; have HGc := Lib.hid hgc; clear hpc hgc))
  refine bodyPost_ret (results_blk (g := w.heap.size) rfl _ _ _ _ _ rfl HPc.out Try.underlying71 rfl (by rw [HVl.out]; exact infoProp)) rfl ?_
  refine ⟨none, 0, rfl, ?_, (((HEa.out.grown HGb.out (by omega) (by omega)).grown HGc.out (by omega) hgl).more (by omega)), grownBy_trans (grownBy_trans HGa.out HGb.out (fun _ e => .inr (by cases e; omega))) HGc.out (fun _ e => .inr (by cases e; exact Nat.le_refl _))⟩
  exact ((HOa.out.kept HGb.out (.inr (fun e => by have := (HOa.out.lt _ e).1; omega))).kept HGc.out (.inr (fun e => by have := (HOa.out.lt _ e).1; omega))).less (by omega)
end Go.Proofs.Ytloglpamnalmeaa

/- CONTRACT: burrowref09.TakeProposal: only whether the bytes are good. -/
namespace Go.Proofs.Ytloglpamnalmeaa
open Go.RowKit
set_option linter.unusedVariables false
set_option linter.unusedSimpArgs false

theorem built_zProp : Try.prog.built 71 [] = some zPropL.toArray := by kernel_rfl
theorem zPropL_one : ∀ u ∈ zPropL, u.oneCell' = true := propC_one _ _ _
set_option maxRecDepth 100000 in
set_option maxHeartbeats 4000000 in
theorem rtakeProposal_any {w : World} {B' : Nat} {A : Option Addr} {n c : Nat} {bs : List (BitVec 8)} (hr : Rd b8 w B' A bs) (hB' : B' ≤ w.heap.size) (hn : bs.length = n) (hnc : n ≤ c) (hy : n ≤ 1000000) :
    Calls Try.prog 42 #[.slice A n c] w fun e w' => Below w.heap.size w w' ∧ ∃ cs : List Value, e = .returned (.tuple #[.agg cs.toArray, .bool (goodP bs)]) ∧ cs.length = 263 ∧ ∀ u ∈ cs, u.oneCell' = true := by
  have HR := Lib.hid hr
  have HN := Lib.hid hn
  have hb0 : bs.length ≤ 1000000 := by rw [hn]; exact hy
  have C1 := Lib.hid (fun (W : World) (h : Rin W (w.heap.size + 1) (w.heap.size + 1) (bs, false) 0) => rprop_any h (show bs.length ≤ 10000000 by omega) (by omega))
  have hok : (pProp (bs, false)).1.Ok := prV_ok _
  have hum : (pProp (bs, false)).1.leaf.um.length ≤ 300 := by
    show (prV (bs, false)).leaf.um.length ≤ 300
    rw [prV_leaf]
    unfold prLeaf
    split
    · have := pNode_um (prS5 (bs, false)); omega
    · simp [zNode]
  obtain ⟨V, hV⟩ : ∃ V, V = (pProp (bs, false)).1 := ⟨_, rfl⟩
  obtain ⟨⟨R, D⟩, hs⟩ : ∃ s, s = (pProp (bs, false)).2 := ⟨_, rfl⟩
  obtain ⟨q, hq⟩ : ∃ q, q = goodP bs := ⟨_, rfl⟩
  have hqq : chkGood D R bs (propBad V || decide (65536 < (propB V).length)) (propB V) = q := by rw [hq]; unfold goodP; rw [← hV, ← hs]
  rw [← hq]
  rw [← hV] at hok hum
  simp only [← hV, ← hs] at C1
  have HQ := Lib.hid hqq
  have HOk := Lib.hid hok
  have HF := Lib.hid (rin_new2 (c := c) zPropL 71 hr hB' hn hnc)
  clear hr hn hb0 hV hs hq hqq hok
  go_enter Try.func42, Try.ntmps42
  go_wp2_with fail
  generalize hW1 : World.alloc (World.alloc w _) _ = w1
  obtain ⟨hp1, he1, hb1, hz1⟩ := HF.out w1 hW1
  have hz1' : w.heap.size + 2 ≤ w1.heap.size := by omega
  clear hW1 HF hz1
  have HP1 := Lib.hid hp1
  have HE1 := Lib.hid he1
  have HB1 := Lib.hid hb1
  clear hp1 he1 hb1
  refine (C1.out _ HE1.out).mono ?_
  rintro e w2 ⟨A2, c2, rfl, ho2, he2, hg2⟩
  have HE2 := Lib.hid he2
  have HO2 := Lib.hid ho2
  have HP2 := Lib.hid (HP1.out.grown hg2 (by intro e; have := Option.some.inj e; omega))
  have HB2 := Lib.hid (HB1.out.trans (below_grown hg2 (by omega) (by omega)) : Below w.heap.size w w2)
  have hz2' := Nat.le_trans hz1' hg2.size
  have HXl := Lib.hid (show (propC V A2 c2).length = 263 from propC_len HOk.out _ _)
  clear he2 ho2 hg2 HE1 HP1 HB1 C1
  go_wp2_with (first
    | (refine wpList_store_blk rfl 71 _ _ rfl w2.heap.size rfl (propC V A2 c2) rfl _ _ (Blk.new w2 71 zPropL) (by rw [zPropL_len, HXl.out]) (by rw [HXl.out]; exact infoProp) (propC_one _ _ _) ?_; intro w3 hp3 hg3; have HX3 := Lib.hid hp3; have HG3 := Lib.hid hg3; clear hp3 hg3)
    | (refine wpList_load_mid rfl 71 (.tmp 5) rfl w2.heap.size 0 rfl (propC V A2 c2) _ (Blk.whole HX3.out) Try.underlying71 rfl (by rw [HXl.out]; exact infoProp) ?_))
  have hb3 : Below w2.heap.size w2 w3 := below_box HG3.out
  have hs3 := hb3.size
  have HE3 := Lib.hid (HE2.out.below hb3 (Nat.le_refl _))
  have HP3 := Lib.hid (HP2.out.below hb3 (by omega))
  have HB3 := Lib.hid (HB2.out.trans (hb3.mono (by omega)))
  have HO3 := Lib.hid (HO2.out.below hb3 (Nat.le_refl _))
  have hput := refPutProp_any V HOk.out (c := c2) HO3.out.rd (Nat.le_refl _) hum
  obtain ⟨rb, hrb⟩ : ∃ rb, rb = (propBad V || decide (65536 < (propB V).length)) := ⟨_, rfl⟩
  obtain ⟨X, hX⟩ : ∃ X, X = (if rb = true then [] else propB V) := ⟨_, rfl⟩
  rw [← hrb, ← hX] at hput
  have HPut := Lib.hid hput
  have HQ' := Lib.hid (show chkGood D R bs rb X = q by rw [hX, chk_if, ← HQ.out, hrb])
  clear hput hrb hX HQ hb3 HG3 HE2 HP2 HB2 HO2
  refine HPut.out.mono ?_
  rintro e wa ⟨va, rfl, hoa, hba⟩
  obtain ⟨la, hla⟩ : ∃ l, X.length = l := ⟨_, rfl⟩
  obtain ⟨Aa, ca, rfl, hra, -, -, -⟩ := hoa.shape' hla
  have hsa : w3.heap.size ≤ wa.heap.size := hba.size
  have HXa := Lib.hid (HX3.out.below hba HX3.out.lt)
  have HPa := Lib.hid (HP3.out.below hba (by omega))
  have HBa := Lib.hid (HB3.out.trans (hba.mono (by omega)))
  have hwh := rwhole_any (HE3.out.below hba (Nat.le_refl _)) c (HR.out.below (HBa.out.mono hB')) HN.out ca hra hla rb
  rw [show chkGood (R, D).2 (R, D).1 bs rb X = q from HQ'.out] at hwh
  have HW := Lib.hid hwh
  clear hwh hla hoa hra hba HPut HE3 HB3 HX3 HP3 HO3
  go_wp2_with fail
  refine HW.out.mono ?_
  rintro e wb ⟨rfl, rfl⟩
  cases q with
  | true =>
    go_wp2_with (first
      | (refine wpList_load_mid rfl 71 (.tmp 5) rfl w2.heap.size 0 rfl (propC V A2 c2) _ (Blk.whole HXa.out) Try.underlying71 rfl (by rw [HXl.out]; exact infoProp) ?_)
      | (refine wpList_store_blk rfl 71 _ _ rfl w.heap.size rfl (propC V A2 c2) rfl _ _ HPa.out (by rw [zPropL_len, HXl.out]) (by rw [HXl.out]; exact infoProp) (propC_one _ _ _) ?_; intro wz hpz hgz; have HPz := Lib.hid hpz; have HGz := Lib.hid hgz; clear hpz hgz))
    refine bodyPost_ret (v := .tuple #[.agg (propC V A2 c2).toArray, .bool true]) (results_blk_tmp (g := w.heap.size) rfl _ _ _ _ _ _ rfl rfl HPz.out Try.underlying71 rfl (by rw [HXl.out]; exact infoProp)) rfl ?_
    exact ⟨HBa.out.grown HGz.out (by omega) (fun k e => by cases e; omega), _, rfl, HXl.out, propC_one _ _ _⟩
  | false =>
    go_wp2_with (first
      | (refine wpList_build_at rfl 71 [] rfl _ _ rfl built_zProp ?_)
      | (refine wpList_store_blk rfl 71 _ _ rfl w.heap.size rfl zPropL rfl _ _ HPa.out rfl (by rw [zPropL_len]; exact infoProp) zPropL_one ?_; intro wz hpz hgz; have HPz := Lib.hid hpz; have HGz := Lib.hid hgz; clear hpz hgz))
    refine bodyPost_ret (v := .tuple #[.agg zPropL.toArray, .bool false]) (results_blk_tmp (g := w.heap.size) rfl _ _ _ _ _ _ rfl rfl HPz.out Try.underlying71 rfl (by rw [zPropL_len]; exact infoProp)) rfl ?_
    exact ⟨HBa.out.grown HGz.out (by omega) (fun k e => by cases e; omega), _, rfl, zPropL_len, zPropL_one⟩
end Go.Proofs.Ytloglpamnalmeaa
