/- CONTRACT: the reader of the document's chapter 9: node. -/
import Derived.Test.YtloglpamnalmeaaRins
import Derived.Test.YtloglpamnalmeaaReadProp
import Derived.Test.YtloglpamnalmeaaManyNode
import Derived.Test.YtloglpamnalmeaaTakeTree
import Derived.Test.YtloglpamnalmeaaRefTree
namespace Go.Proofs.Ytloglpamnalmeaa
open Go.RowKit
set_option linter.unusedVariables false
set_option linter.unusedSimpArgs false

theorem infoSumS : (Try.prog.info? 23).map (·.size) = some 32 := by kernel_rfl
/-- a reader's count goes up -/
theorem Rin.up {w : World} {B g q : Nat} {s : St} {K : Nat} (h : Rin w B g s K) (hq : w.cell? ⟨g, 1, none⟩ = some (.int .i64 (q : Int))) (hK : q ≤ K) : Rin (w.setCell ⟨g, 1, none⟩ (.int .i64 ((q : Int) + 1))) B g (s.1, true) (K + 1) := by
  have hle := h.le
  obtain ⟨⟨A, c, q', h1, h2, h3, h4, h5⟩, h6⟩ := h
  exact ⟨⟨A, c, q + 1, h1.set_ 1 _, h2.below ((Below.refl B w).setCell (p := ⟨g, 1, none⟩) hle _), h3, by omega, by simp⟩, h6⟩
set_option maxRecDepth 100000 in
theorem built_nodeU (u : Bool) : Try.prog.built 50 [(0, .bool u)] = some (nodeC ⟨u, 0, zero32, zero32, zero32, []⟩ none 0).toArray := by
  kernel_rfl
theorem nodeC_nm {u : Bool} {n m : Int} {K3 K4 K5 : List (BitVec 8)} {L : List Int} {A : Option Addr} {c : Nat} : (nodeC ⟨u, n, K3, K4, K5, L⟩ A c).set 1 (.int .i64 m) = nodeC ⟨u, m, K3, K4, K5, L⟩ A c := by
  simp [nodeC]
theorem nodeC_98 {u : Bool} {n : Int} {K3 K4 K5 : List (BitVec 8)} {L : List Int} (h3 : K3.length = 32) (h4 : K4.length = 32) (h5 : K5.length = 32) {A : Option Addr} {c : Nat} : (nodeC ⟨u, n, K3, K4, K5, L⟩ A c)[98]? = some (.slice A L.length c) := by
  unfold nodeC
  rw [List.getElem?_append_right (by simp [h3]), List.getElem?_append_right (by simp [h3, h4]), List.getElem?_append_right (by simp [h3, h4, h5])]
  simp [h3, h4, h5]
theorem nodeC_row {u : Bool} {n : Int} {K3 K4 K5 : List (BitVec 8)} {L L' : List Int} (h3 : K3.length = 32) (h4 : K4.length = 32) (h5 : K5.length = 32) (A A' : Option Addr) (c c' : Nat) : (nodeC ⟨u, n, K3, K4, K5, L⟩ A c).set 98 (.slice A' L'.length c') = nodeC ⟨u, n, K3, K4, K5, L'⟩ A' c' := by
  unfold nodeC
  rw [List.set_append_right _ _ (by simp [h3]), List.set_append_right _ _ (by simp [h3, h4]), List.set_append_right _ _ (by simp [h3, h4, h5])]
  simp [h3, h4, h5]
theorem grown_bel3 {w w1 w2 : World} {r : Option Nat} (h : w.grownBy w1 r) (hb : Below w.heap.size w1 w2) : w.grownBy w2 r := grown_below h hb
set_option maxRecDepth 100000 in
set_option maxHeartbeats 4000000 in
theorem rnode_any {w : World} {B g K : Nat} {s : St} (hE : Rin w B g s K) (hy : s.1.length ≤ 10000000) (hK : K ≤ 900000) :
    Calls Try.prog 113 #[.pointer (some ⟨g, 0, none⟩)] w fun e w' => ∃ A c, e = .returned (.agg (nodeC (pNode s).1 A c).toArray) ∧ Own cI w' w.heap.size 3 (.slice A (pNode s).1.um.length c) (pNode s).1.um ∧ Rin w' B g (pNode s).2 (K + 8) ∧ w.grownBy w' (some g) := by
  obtain ⟨i0, hi0, hz0, hz1, hz2⟩ := info_parts infoIntE
  obtain ⟨N1, hN1⟩ : ∃ N1, N1 = (pNum 1 s).1 := ⟨_, rfl⟩
  obtain ⟨⟨r1, d1⟩, hs1⟩ : ∃ s1, s1 = (pNum 1 s).2 := ⟨_, rfl⟩
  have e1 : nodeS1 s = (r1, d1 || decide (1 < N1)) := by unfold nodeS1; rw [← hs1, ← hN1]
  obtain ⟨t1, ht1⟩ : ∃ t1, t1 = nodeS1 s := ⟨_, rfl⟩
  obtain ⟨N2, hN2⟩ : ∃ N2, N2 = (pNum 1 t1).1 := ⟨_, rfl⟩
  obtain ⟨s2, hs2⟩ : ∃ s2, s2 = (pNum 1 t1).2 := ⟨_, rfl⟩
  obtain ⟨K3, hK3⟩ : ∃ K3, K3 = (pTk 32 s2).1 := ⟨_, rfl⟩
  obtain ⟨s3, hs3⟩ : ∃ s3, s3 = (pTk 32 s2).2 := ⟨_, rfl⟩
  obtain ⟨K4, hK4⟩ : ∃ K4, K4 = (pTk 32 s3).1 := ⟨_, rfl⟩
  obtain ⟨s4, hs4⟩ : ∃ s4, s4 = (pTk 32 s3).2 := ⟨_, rfl⟩
  obtain ⟨K5, hK5⟩ : ∃ K5, K5 = (pTk 32 s4).1 := ⟨_, rfl⟩
  obtain ⟨s5, hs5⟩ : ∃ s5, s5 = (pTk 32 s4).2 := ⟨_, rfl⟩
  obtain ⟨N, hN⟩ : ∃ N, N = (pNum 1 s5).1 := ⟨_, rfl⟩
  obtain ⟨s0, hs0⟩ : ∃ s0, s0 = (pNum 1 s5).2 := ⟨_, rfl⟩
  have e0 : pList pOne s5 = pMany pOne N s0 := by rw [hN, hs0]; rfl
  obtain ⟨L, hL⟩ : ∃ L, L = (pMany pOne N s0).1 := ⟨_, rfl⟩
  obtain ⟨sL, hsL⟩ : ∃ sL, sL = (pMany pOne N s0).2 := ⟨_, rfl⟩
  have e2 : nodeS2 s = s2 := by rw [nodeS2, hs2, ht1]
  have e3 : nodeS3 s = s3 := by rw [nodeS3, hs3, e2]
  have e4 : nodeS4 s = s4 := by rw [nodeS4, hs4, e3]
  have e5 : nodeS5 s = s5 := by rw [nodeS5, hs5, e4]
  have ep : pNode s = (⟨decide (N1 = 1), (N2 : Int), K3, K4, K5, L⟩, sL) := by rw [pNode, e2, e3, e4, e5, ← ht1, ← hN1, ← hN2, ← hK3, ← hK4, ← hK5, e0, ← hL, ← hsL]
  have l1 : r1.length ≤ 10000000 := by have := pNum_le 1 s; rw [← hs1] at this; exact Nat.le_trans this hy
  have l2 : t1.1.length ≤ 10000000 := by rw [ht1, e1]; exact l1
  have l3 : s2.1.length ≤ 10000000 := by rw [hs2]; exact Nat.le_trans (pNum_le 1 t1) l2
  have l4 : s3.1.length ≤ 10000000 := by rw [hs3]; exact Nat.le_trans (pTk_le 32 s2) l3
  have l5 : s4.1.length ≤ 10000000 := by rw [hs4]; exact Nat.le_trans (pTk_le 32 s3) l4
  have l6 : s5.1.length ≤ 10000000 := by rw [hs5]; exact Nat.le_trans (pTk_le 32 s4) l5
  have l7 : s0.1.length ≤ 10000000 := by rw [hs0]; exact Nat.le_trans (pNum_le 1 s5) l6
  have k1 : N1 < 256 := by rw [hN1]; exact pNum1_lt s
  have k2 : N2 < 256 := by rw [hN2]; exact pNum1_lt t1
  have k3 : K3.length = 32 := by rw [hK3]; exact pTk_len _ _
  have k4 : K4.length = 32 := by rw [hK4]; exact pTk_len _ _
  have k5 : K5.length = 32 := by rw [hK5]; exact pTk_len _ _
  have k6 : N < 256 := by rw [hN]; exact pNum1_lt s5
  have C1 := Lib.hid (fun (W : World) (h : Rin W B g s K) => (show Calls Try.prog 94 #[.pointer (some ⟨g, 0, none⟩), .int .i64 1] W fun e w' => e = .returned (.int .i64 (N1 : Int)) ∧ Rin w' B g (r1, d1) (K + 1) ∧ W.grownBy w' (some g) by rw [hN1, hs1]; exact rnum_any h 1 1 rfl (by omega) (by omega) (by omega)))
  have C2 := Lib.hid (fun (W : World) (h : Rin W B g t1 (K + 2)) => (show Calls Try.prog 94 #[.pointer (some ⟨g, 0, none⟩), .int .i64 1] W fun e w' => e = .returned (.int .i64 (N2 : Int)) ∧ Rin w' B g s2 (K + 3) ∧ W.grownBy w' (some g) by rw [hN2, hs2]; exact rnum_any h 1 1 rfl (by omega) (by omega) (by omega)))
  have C3 := Lib.hid (fun (W : World) (h : Rin W B g s2 (K + 3)) => (show Calls Try.prog 114 #[.pointer (some ⟨g, 0, none⟩)] W fun e w' => e = .returned (.agg (K3.map b8).toArray) ∧ Rin w' B g s3 (K + 4) ∧ W.grownBy w' (some g) by rw [hK3, hs3]; exact rkey_any h (by omega) (by omega)))
  have C4 := Lib.hid (fun (W : World) (h : Rin W B g s3 (K + 4)) => (show Calls Try.prog 114 #[.pointer (some ⟨g, 0, none⟩)] W fun e w' => e = .returned (.agg (K4.map b8).toArray) ∧ Rin w' B g s4 (K + 5) ∧ W.grownBy w' (some g) by rw [hK4, hs4]; exact rkey_any h (by omega) (by omega)))
  have C5 := Lib.hid (fun (W : World) (h : Rin W B g s4 (K + 5)) => (show Calls Try.prog 93 #[.pointer (some ⟨g, 0, none⟩)] W fun e w' => e = .returned (.agg (K5.map b8).toArray) ∧ Rin w' B g s5 (K + 6) ∧ W.grownBy w' (some g) by rw [hK5, hs5]; exact rsum_any h (by omega) (by omega)))
  have C6 := Lib.hid (fun (W : World) (h : Rin W B g s5 (K + 6)) => (show Calls Try.prog 94 #[.pointer (some ⟨g, 0, none⟩), .int .i64 1] W fun e w' => e = .returned (.int .i64 (N : Int)) ∧ Rin w' B g s0 (K + 7) ∧ W.grownBy w' (some g) by rw [hN, hs0]; exact rnum_any h 1 1 rfl (by omega) (by omega) (by omega)))
  have C7 := Lib.hid (fun (W : World) (t : St) (h : Rin W B g t 0) (ht : t.1.length ≤ 10000000) => (show Calls Try.prog 94 #[.pointer (some ⟨g, 0, none⟩), .int .i64 1] W fun e w' => e = .returned (.int .i64 (pOne t).1) ∧ Rin w' B g (pOne t).2 1 ∧ W.grownBy w' (some g) from rnum_any h 1 1 rfl (by omega) (by omega) (by omega)))
  have T1 := Lib.hid (show t1 = (r1, d1 || decide (1 < N1)) by rw [ht1, e1])
  have HLL := Lib.hid (show pMany pOne N s0 = (L, sL) by rw [hL, hsL])
  rw [ep]
  have hgl := hE.lt
  have hle := hE.le
  have HE1 := Lib.hid (hE.below ((Below.refl w.heap.size w).alloc (Nat.le_refl _) (.cells Try.zeroCells50 50)) (Nat.le_refl _))
  have HP1 := Lib.hid (Blk.new w 50 zTN)
  have HG1 := Lib.hid (World.grownBy_alloc w (.cells Try.zeroCells50 50) (some g))
  clear hE hN1 hs1 e1 ht1 hN2 hs2 hK3 hs3 hK4 hs4 hK5 hs5 hN hs0 e0 hL hsL e2 e3 e4 e5 ep hy l1 l2 l3 l4 l5 l6
  have K3L := Lib.hid k3
  have K4L := Lib.hid k4
  have K5L := Lib.hid k5
  obtain ⟨u, hu'⟩ : ∃ u, u = decide (N1 = 1) := ⟨_, rfl⟩
  have hu : ((N1 : Int) == 1) = u := by rw [hu', Bool.eq_iff_iff]; simp; omega
  rw [← hu']
  have HBu := Lib.hid (built_nodeU u)
  have HU := Lib.hid hu
  clear k3 k4 k5 hu' hu
  go_enter Try.func113, Try.ntmps113
  go_wp2_with fail
  generalize hW1 : World.alloc w _ = W1
  have HE1 := Lib.hid (show Rin W1 B g s K by rw [← hW1]; exact HE1.out)
  have HP1 := Lib.hid (show Blk W1 w.heap.size 50 zTN by rw [← hW1]; exact HP1.out)
  have HG1 := Lib.hid (show w.grownBy W1 (some g) by rw [← hW1]; exact HG1.out)
  have hq1 : w.heap.size + 1 ≤ W1.heap.size := by rw [← hW1]; simp
  clear hW1
  refine (C1.out _ HE1.out).mono ?_
  rintro e w2 ⟨rfl, he2, hg2⟩
  have HE2 := Lib.hid he2
  have HP2 := Lib.hid (HP1.out.grown hg2 (by intro e; have := Option.some.inj e; omega))
  have HG2 := Lib.hid (grownBy_trans HG1.out hg2 (fun _ e => .inl e))
  have hq2 := Nat.le_trans hq1 hg2.size
  clear he2 hg2 HE1 HP1 HG1 C1
  by_cases hu1 : 1 < N1
  · obtain ⟨q, cq, fq, hqK, -⟩ := HE2.out.q
    have hE3 := HE2.out.up cq hqK
    have HE3 := Lib.hid (show Rin (w2.setCell ⟨g, 1, none⟩ (.int .i64 ((q : Int) + 1))) B g t1 (K + 2) by rw [T1.out, show (d1 || decide (1 < N1)) = true by simp [hu1]]; exact hE3)
    have HP3 := Lib.hid (HP2.out.grown (grownBy_set w2 g 1 (.int .i64 ((q : Int) + 1))) (by intro e; have := Option.some.inj e; omega))
    have HG3 := Lib.hid (grownBy_trans HG2.out (grownBy_set w2 g 1 (.int .i64 ((q : Int) + 1))) (fun _ e => .inl e))
    have hu1i : (1 : Int) < (N1 : Int) := by omega
    clear hE3
    have hu := HU.out
    go_wp2_with (first
      | (refine wpList_build_at rfl 50 [(0, .tmp 19)] rfl _ _ rfl HBu.out ?_)
      | (refine wpList_store_blk rfl 50 _ _ rfl w2.heap.size rfl (nodeC ⟨u, 0, zero32, zero32, zero32, []⟩ none 0) rfl _ _ (Blk.at_size 50 zTN (by simp)) (by rw [zTN_len]; simp [nodeC, zero32_len]) (by simp only [nodeC, List.length_append, List.length_cons, List.length_map, zero32_len]; exact infoNode) (nodeC_one _ _ _) ?_; intro w4 hp4 hg4; have HX4 := Lib.hid hp4; have HG4' := Lib.hid hg4; clear hp4 hg4))
    have hs2 : (w2.setCell ⟨g, 1, none⟩ (.int .i64 ((q : Int) + 1))).heap.size = w2.heap.size := by simp
    have hb4 : Below w2.heap.size (w2.setCell ⟨g, 1, none⟩ (.int .i64 ((q : Int) + 1))) w4 := by
      have h := HG4'.out
      exact ((Below.refl _ (w2.setCell ⟨g, 1, none⟩ (.int .i64 ((q : Int) + 1)))).alloc (by omega) _).grown h (by simp) (fun k e => by cases e; exact Nat.le_refl _)
    obtain ⟨gn, hgn⟩ : ∃ gn, gn = w2.heap.size := ⟨_, rfl⟩
    have HE4 := Lib.hid (show Rin w4 B g t1 (K + 2) from HE3.out.low hb4 (by have := HE2.out.lt; omega))
    have HP4 := Lib.hid (HP3.out.below hb4 (by omega))
    have HG4 := Lib.hid (grown_bel3 HG3.out (hb4.mono (by omega)))
    have hq4 : gn + 1 ≤ w4.heap.size := by have := HG4'.out.size; simp at this; omega
    have hggn : g < gn := by have := HE2.out.lt; omega
    have hPgn : w.heap.size < gn := by omega
    rw [← hgn] at HX4 ⊢
    clear hgn hs2 hb4 HG4' HE2 HP2 HG2 HE3 HP3 HG3 hu hq2 T1
    refine (C2.out _ HE4.out).mono ?_
    rintro e w5 ⟨rfl, he5, hg5⟩
    have HE5 := Lib.hid he5
    have HP5 := Lib.hid (HP4.out.grown hg5 (by intro e; have := Option.some.inj e; omega))
    have HX5 := Lib.hid (HX4.out.grown hg5 (by intro e; have := Option.some.inj e; omega))
    have HG5 := Lib.hid (grownBy_trans HG4.out hg5 (fun _ e => .inl e))
    have hq5 := Nat.le_trans hq4 hg5.size
    clear he5 hg5 HE4 HP4 HX4 HG4 C2
    have c1 := HX5.out.cell 1 rfl
    have f1 := HX5.out.frozen 1
    have hx6 := (HX5.out.set_ 1 (.int .i64 (N2 : Int))).cast nodeC_nm
    have hg6 := grownBy_set w5 gn 1 (.int .i64 (N2 : Int))
    go_wp2_with fail
    generalize w5.setCell ⟨gn, 1, none⟩ (.int .i64 (N2 : Int)) = w6 at hx6 hg6 ⊢
    clear c1 f1
    have HX6 := Lib.hid hx6
    have HE6 := Lib.hid (HE5.out.grown hg6 (by omega) (by omega))
    have HP6 := Lib.hid (HP5.out.grown hg6 (by intro e; have := Option.some.inj e; omega))
    have HG6 := Lib.hid (grownBy_trans HG5.out hg6 (fun k e => .inr (by cases e; omega)))
    have hq6 := Nat.le_trans hq5 hg6.size
    clear hx6 hg6 HE5 HP5 HG5 HX5
    refine (C3.out _ HE6.out).mono ?_
    rintro e w7 ⟨rfl, he7, hg7⟩
    have HE7 := Lib.hid he7
    have HP7 := Lib.hid (HP6.out.grown hg7 (by intro e; have := Option.some.inj e; omega))
    have HX7 := Lib.hid (HX6.out.grown hg7 (by intro e; have := Option.some.inj e; omega))
    have HG7 := Lib.hid (grownBy_trans HG6.out hg7 (fun _ e => .inl e))
    have hq7 := Nat.le_trans hq6 hg7.size
    clear he7 hg7 HE6 HP6 HX6 HG6 C3
    go_wp2_with (refine wpList_store_piece rfl 47 _ _ rfl gn 2 rfl (K3.map b8) rfl 50 _ [.bool u, .int .i64 (N2 : Int)] (zero32.map b8) (zero32.map b8 ++ (zero32.map b8 ++ [.slice none 0 0])) HX7.out (by simp [nodeC]) (by simp) (by rw [List.length_map, List.length_map, K3L.out]; rfl) (by rw [List.length_map, K3L.out]; exact infoKeyS) (b8s_one _) ?_; intro w8 hp8 hg8; have hx8 := hp8.cast (show _ = nodeC ⟨u, (N2 : Int), K3, zero32, zero32, []⟩ none 0 by simp [nodeC]); clear hp8)
    have HX8 := Lib.hid hx8
    have HE8 := Lib.hid (HE7.out.grown hg8 (by omega) (by omega))
    have HP8 := Lib.hid (HP7.out.grown hg8 (by intro e; have := Option.some.inj e; omega))
    have HG8 := Lib.hid (grownBy_trans HG7.out hg8 (fun k e => .inr (by cases e; omega)))
    have hq8 := Nat.le_trans hq7 hg8.size
    clear hx8 hg8 HE7 HP7 HG7 HX7
    refine (C4.out _ HE8.out).mono ?_
    rintro e w9 ⟨rfl, he9, hg9⟩
    have HE9 := Lib.hid he9
    have HP9 := Lib.hid (HP8.out.grown hg9 (by intro e; have := Option.some.inj e; omega))
    have HX9 := Lib.hid (HX8.out.grown hg9 (by intro e; have := Option.some.inj e; omega))
    have HG9 := Lib.hid (grownBy_trans HG8.out hg9 (fun _ e => .inl e))
    have hq9 := Nat.le_trans hq8 hg9.size
    clear he9 hg9 HE8 HP8 HX8 HG8 C4
    go_wp2_with (refine wpList_store_piece rfl 47 _ _ rfl gn 34 rfl (K4.map b8) rfl 50 _ (.bool u :: .int .i64 (N2 : Int) :: K3.map b8) (zero32.map b8) (zero32.map b8 ++ [.slice none 0 0]) HX9.out (by simp [nodeC]) (by simp [K3L.out]) (by rw [List.length_map, List.length_map, K4L.out]; rfl) (by rw [List.length_map, K4L.out]; exact infoKeyS) (b8s_one _) ?_; intro w10 hp10 hg10; have hx10 := hp10.cast (show _ = nodeC ⟨u, (N2 : Int), K3, K4, zero32, []⟩ none 0 by simp [nodeC]); clear hp10)
    have HX10 := Lib.hid hx10
    have HE10 := Lib.hid (HE9.out.grown hg10 (by omega) (by omega))
    have HP10 := Lib.hid (HP9.out.grown hg10 (by intro e; have := Option.some.inj e; omega))
    have HG10 := Lib.hid (grownBy_trans HG9.out hg10 (fun k e => .inr (by cases e; omega)))
    have hq10 := Nat.le_trans hq9 hg10.size
    clear hx10 hg10 HE9 HP9 HG9 HX9
    refine (C5.out _ HE10.out).mono ?_
    rintro e w11 ⟨rfl, he11, hg11⟩
    have HE11 := Lib.hid he11
    have HP11 := Lib.hid (HP10.out.grown hg11 (by intro e; have := Option.some.inj e; omega))
    have HX11 := Lib.hid (HX10.out.grown hg11 (by intro e; have := Option.some.inj e; omega))
    have HG11 := Lib.hid (grownBy_trans HG10.out hg11 (fun _ e => .inl e))
    have hq11 := Nat.le_trans hq10 hg11.size
    clear he11 hg11 HE10 HP10 HX10 HG10 C5
    go_wp2_with (refine wpList_store_piece rfl 23 _ _ rfl gn 66 rfl (K5.map b8) rfl 50 _ (.bool u :: .int .i64 (N2 : Int) :: (K3.map b8 ++ K4.map b8)) (zero32.map b8) [.slice none 0 0] HX11.out (by simp [nodeC]) (by simp [K3L.out, K4L.out]) (by rw [List.length_map, List.length_map, K5L.out]; rfl) (by rw [List.length_map, K5L.out]; exact infoSumS) (b8s_one _) ?_; intro w12 hp12 hg12; have hx12 := hp12.cast (show _ = nodeC ⟨u, (N2 : Int), K3, K4, K5, []⟩ none 0 by simp [nodeC]); clear hp12)
    have HX12 := Lib.hid hx12
    have HE12 := Lib.hid (HE11.out.grown hg12 (by omega) (by omega))
    have HP12 := Lib.hid (HP11.out.grown hg12 (by intro e; have := Option.some.inj e; omega))
    have HG12 := Lib.hid (grownBy_trans HG11.out hg12 (fun k e => .inr (by cases e; omega)))
    have hq12 := Nat.le_trans hq11 hg12.size
    clear hx12 hg12 HE11 HP11 HG11 HX11
    refine (C6.out _ HE12.out).mono ?_
    rintro e w13 ⟨rfl, he13, hg13⟩
    have HE13 := Lib.hid he13
    have HP13 := Lib.hid (HP12.out.grown hg13 (by intro e; have := Option.some.inj e; omega))
    have HX13 := Lib.hid (HX12.out.grown hg13 (by intro e; have := Option.some.inj e; omega))
    have HG13 := Lib.hid (grownBy_trans HG12.out hg13 (fun _ e => .inl e))
    have hq13 := Nat.le_trans hq12 hg13.size
    clear he13 hg13 HE12 HP12 HX12 HG12 C6
    go_wp2_with fail
    go_loopw [6] (fun iv wr => ∃ (k : Nat) (acc : List Int) (t : St) (A : Option Addr) (c : Nat), k ≤ N ∧ iv = .int .i64 (k : Int) ∧ acc.length = k ∧ t.1.length ≤ 10000000 ∧ (L, sL) = (acc ++ (pMany pOne (N - k) t).1, (pMany pOne (N - k) t).2) ∧ Blk wr gn 50 (nodeC ⟨u, (N2 : Int), K3, K4, K5, acc⟩ A c) ∧ Own cI wr w.heap.size 3 (.slice A acc.length c) acc ∧ Rin wr B g t (K + 8) ∧ w.grownBy wr (some g) ∧ Blk wr w.heap.size 50 zTN ∧ gn + 1 ≤ wr.heap.size) (fun iv _ => N - (intOf iv).toNat)
    case atStart => exact ⟨0, [], s0, none, 0, by omega, rfl, rfl, l7, by rw [Nat.sub_zero, List.nil_append, HLL.out], HX13.out, Own.nil_ _ _ _ _, HE13.out.more (by omega), HG13.out, HP13.out, hq13⟩
    case round =>
      obtain ⟨k, acc, t, A, c, hk, rfl, hal, htl, hLt, hx, ho, he, hg, hp, hqr⟩ := hrel
      obtain ⟨q, cq, fq, hqK, hqb⟩ := he.q
      by_cases hlt2 : k < N
      · have hlt' : (k : Int) < (N : Int) := by omega
        by_cases hbd : t.2 = true
        · have hq0 : q ≠ 0 := fun h => by rw [hqb.2 h] at hbd; cases hbd
          have hqi : ((q : Int) == 0) = false := by simp; omega
          have hqp : (q = 0) = False := by simp [hq0]
          have h := hLt
          rw [pMany_bad pOne _ hbd, List.append_nil] at h
          injection h with h1 h2
          subst h1 h2
          obtain ⟨Af, hAf⟩ : ∃ Af, Af = A := ⟨_, rfl⟩
          obtain ⟨cf, hcf⟩ : ∃ cf, cf = c := ⟨_, rfl⟩
          rw [← hAf, ← hcf] at hx ho
          have HXf := Lib.hid hx
          have HOf := Lib.hid ho
          have HEf := Lib.hid he
          have HGf := Lib.hid hg
          have HPf := Lib.hid hp
          clear hLt hx ho he hg hp hbd hqb hAf hcf hq0 hal HLL HBu HU
          have HXl := Lib.hid (show (nodeC ⟨u, (N2 : Int), K3, K4, K5, L⟩ Af cf).length = 99 by simp [nodeC, K3L.out, K4L.out, K5L.out])
          go_wp2_with (first
            | (refine wpList_load_mid rfl 50 (.tmp 4) rfl gn 0 rfl (nodeC ⟨u, (N2 : Int), K3, K4, K5, L⟩ Af cf) _ (Blk.whole HXf.out) Try.underlying50 rfl (by rw [HXl.out]; exact infoNode) ?_)
            | (refine wpList_store_blk rfl 50 _ _ rfl w.heap.size rfl (nodeC ⟨u, (N2 : Int), K3, K4, K5, L⟩ Af cf) rfl _ _ HPf.out (by rw [zTN_len, HXl.out]) (by rw [HXl.out]; exact infoNode) (nodeC_one _ _ _) ?_; intro wz hpz hgz; have HPz := Lib.hid hpz; have HGz := Lib.hid hgz; clear hpz hgz))
          refine bodyPost_ret (results_blk (g := w.heap.size) rfl _ _ _ _ _ rfl HPz.out Try.underlying50 rfl (by rw [HXl.out]; exact infoNode)) rfl ?_
          refine ⟨Af, cf, rfl, HOf.out.kept HGz.out (.inr (HPf.out.not_row (by decide) HOf.out).symm), HEf.out.grown HGz.out (by omega) hgl, grownBy_trans HGf.out HGz.out (fun _ e => .inr (by cases e; exact Nat.le_refl _))⟩
        · have hbd' : t.2 = false := by simpa using hbd
          obtain rfl : q = 0 := hqb.1 hbd'
          have HEd := Lib.hid ((he.none_ hbd').below (Below.refl _ wr).drew (Nat.le_refl _))
          have hx' : Blk wr.drew gn 50 (nodeC ⟨u, (N2 : Int), K3, K4, K5, acc⟩ A c) := hx
          have c98 : wr.drew.cell? ⟨gn, 98, none⟩ = some (.slice A k c) := by rw [hx'.cell 98 (nodeC_98 K3L.out K4L.out K5L.out), hal]
          have HXr := Lib.hid hx'
          have HOr := Lib.hid (show Own cI wr.drew w.heap.size 3 (.slice A k c) acc by have := ho.drew; rwa [hal] at this)
          have HGr := Lib.hid hg
          have HPr := Lib.hid (show Blk wr.drew w.heap.size 50 zTN from hp)
          have HLt := Lib.hid hLt
          have HAl := Lib.hid hal
          have HBd := Lib.hid hbd'
          clear hx hx' ho hg hp hLt he hqb hal hbd hbd'
          go_wp2_with fail
          refine wp_region_Y (by kernel_rfl) (fun w' : World => w'.cell? ⟨gn, 98, none⟩ = some (.slice A k c)) 7 ?_
          have hS : (fun w' : World => w'.cell? ⟨gn, 98, none⟩ = some (.slice A k c)) wr.drew := c98
          refine wpAnyY_pure (i := 0) (v := .pointer (some ⟨gn, 98, none⟩)) rfl (by kernel_rfl) (by kernel_rfl) (by kernel_rfl) (by kernel_rfl) (fun _ _ _ h => h) (Or.inl ⟨by rfl, ?_⟩) hS ?_
          · intro w' hw'
            go_simp
          try simp only [Act.put, List.setIfInBounds_toArray, List.set_cons_zero, List.set_cons_succ]
          refine wpAnyY_take (i := 1) (v := .slice A k c) rfl (by kernel_rfl) (by kernel_rfl) (by kernel_rfl) (by kernel_rfl) (by kernel_rfl) (fun _ _ _ h => h) (Or.inl ⟨by rfl, ?_⟩) hS ?_
          · intro w' hw'
            go_simp
          try simp only [Act.put, List.setIfInBounds_toArray, List.set_cons_zero, List.set_cons_succ]
          refine wpAnyY_pure (i := 2) (v := .pointer (some ⟨g, 0, none⟩)) rfl (by kernel_rfl) (by kernel_rfl) (by kernel_rfl) (by kernel_rfl) (fun _ _ _ h => h) (Or.inl ⟨by rfl, ?_⟩) hS ?_
          · intro w' hw'
            go_simp
          try simp only [Act.put, List.setIfInBounds_toArray, List.set_cons_zero, List.set_cons_succ]
          refine wpAnyY_one (i := 3) (by kernel_rfl) rfl (fun K' hK => ?_)
          go_simp
          go_at_call 94
          refine (C7.out _ t HEd.out htl).mono ?_
          rintro e w5 ⟨rfl, he5, hg5⟩
          have HE5 := Lib.hid he5
          have HX5 := Lib.hid (HXr.out.grown hg5 (by intro e; have := Option.some.inj e; omega))
          have HP5 := Lib.hid (HPr.out.grown hg5 (by intro e; have := Option.some.inj e; omega))
          have HO5 := Lib.hid (HOr.out.kept hg5 (.inr (fun e => by have := (HOr.out.lt _ e).1; omega)))
          have HG5 := Lib.hid (grownBy_trans (show w.grownBy wr.drew (some g) from ⟨HGr.out.os, HGr.out.tape, HGr.out.output, HGr.out.size, HGr.out.block⟩) hg5 (fun _ e => .inl e))
          have hq5 : gn + 1 ≤ w5.heap.size := Nat.le_trans hqr hg5.size
          have c98' : w5.cell? ⟨gn, 98, none⟩ = some (.slice A k c) := by rw [HX5.out.cell 98 (nodeC_98 K3L.out K4L.out K5L.out), HAl.out]
          have c98a : ∀ o, (w5.alloc o).cell? ⟨gn, 98, none⟩ = some (.slice A k c) := fun o => by rw [(HX5.out.alloc o).cell 98 (nodeC_98 K3L.out K4L.out K5L.out), HAl.out]
          clear he5 hg5 HEd HXr HPr HOr HGr c98
          refine hK _ _ (fun _ => c98') ?_
          clear hK K'
          try simp only [Act.put, List.setIfInBounds_toArray, List.set_cons_zero, List.set_cons_succ]
          refine wpAnyY_one (i := 4) (by kernel_rfl) rfl (fun K' hK => ?_)
          go_simp
          refine hK _ _ (fun _ => c98a _) ?_
          clear hK K'
          try simp only [Act.put, List.setIfInBounds_toArray, List.set_cons_zero, List.set_cons_succ]
          refine wpAnyY_one (i := 5) (by kernel_rfl) rfl (fun K' hK => ?_)
          refine step_append_rd rfl (.tmp 48) (.tmp 51) 48 rfl cI_one w.heap.size 3 i0 _ 8 Try.underlying48 hi0 hz0 hz1 hz2 rfl _ _ rfl (HO5.out.alloc _) (w5.heap.size + 1) _ 1 1 [(pOne t).1] rfl rfl (Rd.new cI w5 3 [(pOne t).1]) (by have := HAl.out; simp [maxLen]; omega) (by have := HAl.out; simp; omega) (by simp; omega) ?_
          intro v7 w7 hown7 hg7 hbb7
          have hb7 : Below w.heap.size w5 w7 := hbb7 _ _ (Nat.le_refl _) ((Below.refl _ w5).alloc (by omega) _)
          obtain ⟨A7, c7, rfl, -, -, -, -⟩ := hown7.shape' (n := k + 1) (by simp [HAl.out])
          have hx7 := (HX5.out.alloc _).grown hg7.by_ (HX5.out.not_row (by decide) HO5.out)
          have hp7 := (HP5.out.alloc _).grown hg7.by_ (HP5.out.not_row (by decide) HO5.out)
          have hsz7 : gn + 1 ≤ w7.heap.size := Nat.le_trans hq5 hb7.size
          have hsx := (hx7.set_ 98 (.slice A7 (k + 1) c7)).cast (show _ = nodeC ⟨u, (N2 : Int), K3, K4, K5, acc ++ [(pOne t).1]⟩ A7 c7 by
            rw [show k + 1 = (acc ++ [(pOne t).1]).length by simp [HAl.out]]; exact nodeC_row K3L.out K4L.out K5L.out _ _ _ _)
          have hgs := grownBy_set w7 gn 98 (.slice A7 (k + 1) c7)
          have hso := hown7.kept hgs (.inr (hx7.not_row (by decide) hown7).symm)
          have f98 := hx7.frozen 98
          have c98b : w7.cell? ⟨gn, 98, none⟩ = some (.slice A k c) := by rw [hx7.cell 98 (nodeC_98 K3L.out K4L.out K5L.out), HAl.out]
          have HSX := Lib.hid hsx
          have HSO := Lib.hid (show Own cI _ w.heap.size 3 (.slice A7 (acc ++ [(pOne t).1]).length c7) (acc ++ [(pOne t).1]) by rw [show (acc ++ [(pOne t).1]).length = k + 1 by simp [HAl.out]]; exact hso)
          have HSP := Lib.hid (hp7.grown hgs (by intro e; have := Option.some.inj e; omega))
          have HSE := Lib.hid (((HE5.out.more (show 1 ≤ K + 8 by omega)).low hb7 hgl).grown hgs (by omega) (by omega))
          have HSG := Lib.hid (grownBy_trans (grown_below HG5.out hb7) hgs (fun k e => .inr (by cases e; omega)))
          have hqs : gn + 1 ≤ (w7.setCell ⟨gn, 98, none⟩ (.slice A7 (k + 1) c7)).heap.size := Nat.le_trans hsz7 hgs.size
          clear hsx hgs hso hx7 hp7 hown7 hg7 hbb7 hb7 c98a c98'
          refine hK _ _ (fun _ => c98b) ?_
          clear hK K'
          try simp only [Act.put, List.setIfInBounds_toArray, List.set_cons_zero, List.set_cons_succ]
          refine wpAnyY_one (i := 6) (by kernel_rfl) rfl (fun K' hK => ?_)
          go_simp
          refine hK _ _ (fun _ => c98b) ?_
          clear hK K'
          try simp only [Act.put, List.setIfInBounds_toArray, List.set_cons_zero, List.set_cons_succ]
          refine wpAnyY_one (i := 7) (by kernel_rfl) rfl (fun K' hK => ?_)
          go_simp
          refine hK _ _ (fun h => absurd rfl h) (wpAnyY_done (by kernel_rfl) ?_ _)
          clear hK K'
          go_wp2_with fail
          refine ⟨⟨k + 1, acc ++ [(pOne t).1], (pOne t).2, A7, c7, by omega, by congr 1, by simp [HAl.out], Nat.le_trans (pOne_le t) htl, ?_, HSX.out, HSO.out, HSE.out, HSG.out, HSP.out, hqs⟩, by show N - ((k : Int) + 1).toNat < N - (k : Int).toNat; omega⟩
          have h := HLt.out
          rw [show N - k = (N - (k + 1)) + 1 by omega, pMany_succ pOne _ HBd.out] at h
          rw [h, List.append_assoc]; rfl
      · obtain rfl : k = N := by omega
        have h := hLt
        rw [Nat.sub_self] at h
        injection h with h1 h2
        have e1 : L = acc := by rw [h1]; simp [pMany]
        have e2 : sL = t := by rw [h2]; simp [pMany]
        subst e1 e2
        obtain ⟨Af, hAf⟩ : ∃ Af, Af = A := ⟨_, rfl⟩
        obtain ⟨cf, hcf⟩ : ∃ cf, cf = c := ⟨_, rfl⟩
        rw [← hAf, ← hcf] at hx ho
        have HXf := Lib.hid hx
        have HOf := Lib.hid ho
        have HEf := Lib.hid he
        have HGf := Lib.hid hg
        have HPf := Lib.hid hp
        clear hLt hx ho he hg hp hqb hAf hcf hal HLL HBu HU h1 h2
        have HXl := Lib.hid (show (nodeC ⟨u, (N2 : Int), K3, K4, K5, L⟩ Af cf).length = 99 by simp [nodeC, K3L.out, K4L.out, K5L.out])
        go_wp2_with (first
          | (refine wpList_load_mid rfl 50 (.tmp 4) rfl gn 0 rfl (nodeC ⟨u, (N2 : Int), K3, K4, K5, L⟩ Af cf) _ (Blk.whole HXf.out) Try.underlying50 rfl (by rw [HXl.out]; exact infoNode) ?_)
          | (refine wpList_store_blk rfl 50 _ _ rfl w.heap.size rfl (nodeC ⟨u, (N2 : Int), K3, K4, K5, L⟩ Af cf) rfl _ _ HPf.out (by rw [zTN_len, HXl.out]) (by rw [HXl.out]; exact infoNode) (nodeC_one _ _ _) ?_; intro wz hpz hgz; have HPz := Lib.hid hpz; have HGz := Lib.hid hgz; clear hpz hgz))
        refine bodyPost_ret (results_blk (g := w.heap.size) rfl _ _ _ _ _ rfl HPz.out Try.underlying50 rfl (by rw [HXl.out]; exact infoNode)) rfl ?_
        refine ⟨Af, cf, rfl, HOf.out.kept HGz.out (.inr (HPf.out.not_row (by decide) HOf.out).symm), HEf.out.grown HGz.out (by omega) hgl, grownBy_trans HGf.out HGz.out (fun _ e => .inr (by cases e; exact Nat.le_refl _))⟩
  · have HE3 := Lib.hid (show Rin w2 B g t1 (K + 2) by rw [T1.out, show (d1 || decide (1 < N1)) = d1 by simp [hu1]]; exact HE2.out.more (by omega))
    have HP3 := Lib.hid HP2.out
    have HG3 := Lib.hid HG2.out
    have hu1i : decide ((1 : Int) < (N1 : Int)) = false := by simp; omega
    have hu := HU.out
    go_wp2_with (first
      | (refine wpList_build_at rfl 50 [(0, .tmp 19)] rfl _ _ rfl HBu.out ?_)
      | (refine wpList_store_blk rfl 50 _ _ rfl w2.heap.size rfl (nodeC ⟨u, 0, zero32, zero32, zero32, []⟩ none 0) rfl _ _ (Blk.at_size 50 zTN (by simp)) (by rw [zTN_len]; simp [nodeC, zero32_len]) (by simp only [nodeC, List.length_append, List.length_cons, List.length_map, zero32_len]; exact infoNode) (nodeC_one _ _ _) ?_; intro w4 hp4 hg4; have HX4 := Lib.hid hp4; have HG4' := Lib.hid hg4; clear hp4 hg4))
    have hs2 : (w2).heap.size = w2.heap.size := by simp
    have hb4 : Below w2.heap.size (w2) w4 := by
      have h := HG4'.out
      exact ((Below.refl _ (w2)).alloc (by omega) _).grown h (by simp) (fun k e => by cases e; exact Nat.le_refl _)
    obtain ⟨gn, hgn⟩ : ∃ gn, gn = w2.heap.size := ⟨_, rfl⟩
    have HE4 := Lib.hid (show Rin w4 B g t1 (K + 2) from HE3.out.low hb4 (by have := HE2.out.lt; omega))
    have HP4 := Lib.hid (HP3.out.below hb4 (by omega))
    have HG4 := Lib.hid (grown_bel3 HG3.out (hb4.mono (by omega)))
    have hq4 : gn + 1 ≤ w4.heap.size := by have := HG4'.out.size; simp at this; omega
    have hggn : g < gn := by have := HE2.out.lt; omega
    have hPgn : w.heap.size < gn := by omega
    rw [← hgn] at HX4 ⊢
    clear hgn hs2 hb4 HG4' HE2 HP2 HG2 HE3 HP3 HG3 hu hq2 T1
    refine (C2.out _ HE4.out).mono ?_
    rintro e w5 ⟨rfl, he5, hg5⟩
    have HE5 := Lib.hid he5
    have HP5 := Lib.hid (HP4.out.grown hg5 (by intro e; have := Option.some.inj e; omega))
    have HX5 := Lib.hid (HX4.out.grown hg5 (by intro e; have := Option.some.inj e; omega))
    have HG5 := Lib.hid (grownBy_trans HG4.out hg5 (fun _ e => .inl e))
    have hq5 := Nat.le_trans hq4 hg5.size
    clear he5 hg5 HE4 HP4 HX4 HG4 C2
    have c1 := HX5.out.cell 1 rfl
    have f1 := HX5.out.frozen 1
    have hx6 := (HX5.out.set_ 1 (.int .i64 (N2 : Int))).cast nodeC_nm
    have hg6 := grownBy_set w5 gn 1 (.int .i64 (N2 : Int))
    go_wp2_with fail
    generalize w5.setCell ⟨gn, 1, none⟩ (.int .i64 (N2 : Int)) = w6 at hx6 hg6 ⊢
    clear c1 f1
    have HX6 := Lib.hid hx6
    have HE6 := Lib.hid (HE5.out.grown hg6 (by omega) (by omega))
    have HP6 := Lib.hid (HP5.out.grown hg6 (by intro e; have := Option.some.inj e; omega))
    have HG6 := Lib.hid (grownBy_trans HG5.out hg6 (fun k e => .inr (by cases e; omega)))
    have hq6 := Nat.le_trans hq5 hg6.size
    clear hx6 hg6 HE5 HP5 HG5 HX5
    refine (C3.out _ HE6.out).mono ?_
    rintro e w7 ⟨rfl, he7, hg7⟩
    have HE7 := Lib.hid he7
    have HP7 := Lib.hid (HP6.out.grown hg7 (by intro e; have := Option.some.inj e; omega))
    have HX7 := Lib.hid (HX6.out.grown hg7 (by intro e; have := Option.some.inj e; omega))
    have HG7 := Lib.hid (grownBy_trans HG6.out hg7 (fun _ e => .inl e))
    have hq7 := Nat.le_trans hq6 hg7.size
    clear he7 hg7 HE6 HP6 HX6 HG6 C3
    go_wp2_with (refine wpList_store_piece rfl 47 _ _ rfl gn 2 rfl (K3.map b8) rfl 50 _ [.bool u, .int .i64 (N2 : Int)] (zero32.map b8) (zero32.map b8 ++ (zero32.map b8 ++ [.slice none 0 0])) HX7.out (by simp [nodeC]) (by simp) (by rw [List.length_map, List.length_map, K3L.out]; rfl) (by rw [List.length_map, K3L.out]; exact infoKeyS) (b8s_one _) ?_; intro w8 hp8 hg8; have hx8 := hp8.cast (show _ = nodeC ⟨u, (N2 : Int), K3, zero32, zero32, []⟩ none 0 by simp [nodeC]); clear hp8)
    have HX8 := Lib.hid hx8
    have HE8 := Lib.hid (HE7.out.grown hg8 (by omega) (by omega))
    have HP8 := Lib.hid (HP7.out.grown hg8 (by intro e; have := Option.some.inj e; omega))
    have HG8 := Lib.hid (grownBy_trans HG7.out hg8 (fun k e => .inr (by cases e; omega)))
    have hq8 := Nat.le_trans hq7 hg8.size
    clear hx8 hg8 HE7 HP7 HG7 HX7
    refine (C4.out _ HE8.out).mono ?_
    rintro e w9 ⟨rfl, he9, hg9⟩
    have HE9 := Lib.hid he9
    have HP9 := Lib.hid (HP8.out.grown hg9 (by intro e; have := Option.some.inj e; omega))
    have HX9 := Lib.hid (HX8.out.grown hg9 (by intro e; have := Option.some.inj e; omega))
    have HG9 := Lib.hid (grownBy_trans HG8.out hg9 (fun _ e => .inl e))
    have hq9 := Nat.le_trans hq8 hg9.size
    clear he9 hg9 HE8 HP8 HX8 HG8 C4
    go_wp2_with (refine wpList_store_piece rfl 47 _ _ rfl gn 34 rfl (K4.map b8) rfl 50 _ (.bool u :: .int .i64 (N2 : Int) :: K3.map b8) (zero32.map b8) (zero32.map b8 ++ [.slice none 0 0]) HX9.out (by simp [nodeC]) (by simp [K3L.out]) (by rw [List.length_map, List.length_map, K4L.out]; rfl) (by rw [List.length_map, K4L.out]; exact infoKeyS) (b8s_one _) ?_; intro w10 hp10 hg10; have hx10 := hp10.cast (show _ = nodeC ⟨u, (N2 : Int), K3, K4, zero32, []⟩ none 0 by simp [nodeC]); clear hp10)
    have HX10 := Lib.hid hx10
    have HE10 := Lib.hid (HE9.out.grown hg10 (by omega) (by omega))
    have HP10 := Lib.hid (HP9.out.grown hg10 (by intro e; have := Option.some.inj e; omega))
    have HG10 := Lib.hid (grownBy_trans HG9.out hg10 (fun k e => .inr (by cases e; omega)))
    have hq10 := Nat.le_trans hq9 hg10.size
    clear hx10 hg10 HE9 HP9 HG9 HX9
    refine (C5.out _ HE10.out).mono ?_
    rintro e w11 ⟨rfl, he11, hg11⟩
    have HE11 := Lib.hid he11
    have HP11 := Lib.hid (HP10.out.grown hg11 (by intro e; have := Option.some.inj e; omega))
    have HX11 := Lib.hid (HX10.out.grown hg11 (by intro e; have := Option.some.inj e; omega))
    have HG11 := Lib.hid (grownBy_trans HG10.out hg11 (fun _ e => .inl e))
    have hq11 := Nat.le_trans hq10 hg11.size
    clear he11 hg11 HE10 HP10 HX10 HG10 C5
    go_wp2_with (refine wpList_store_piece rfl 23 _ _ rfl gn 66 rfl (K5.map b8) rfl 50 _ (.bool u :: .int .i64 (N2 : Int) :: (K3.map b8 ++ K4.map b8)) (zero32.map b8) [.slice none 0 0] HX11.out (by simp [nodeC]) (by simp [K3L.out, K4L.out]) (by rw [List.length_map, List.length_map, K5L.out]; rfl) (by rw [List.length_map, K5L.out]; exact infoSumS) (b8s_one _) ?_; intro w12 hp12 hg12; have hx12 := hp12.cast (show _ = nodeC ⟨u, (N2 : Int), K3, K4, K5, []⟩ none 0 by simp [nodeC]); clear hp12)
    have HX12 := Lib.hid hx12
    have HE12 := Lib.hid (HE11.out.grown hg12 (by omega) (by omega))
    have HP12 := Lib.hid (HP11.out.grown hg12 (by intro e; have := Option.some.inj e; omega))
    have HG12 := Lib.hid (grownBy_trans HG11.out hg12 (fun k e => .inr (by cases e; omega)))
    have hq12 := Nat.le_trans hq11 hg12.size
    clear hx12 hg12 HE11 HP11 HG11 HX11
    refine (C6.out _ HE12.out).mono ?_
    rintro e w13 ⟨rfl, he13, hg13⟩
    have HE13 := Lib.hid he13
    have HP13 := Lib.hid (HP12.out.grown hg13 (by intro e; have := Option.some.inj e; omega))
    have HX13 := Lib.hid (HX12.out.grown hg13 (by intro e; have := Option.some.inj e; omega))
    have HG13 := Lib.hid (grownBy_trans HG12.out hg13 (fun _ e => .inl e))
    have hq13 := Nat.le_trans hq12 hg13.size
    clear he13 hg13 HE12 HP12 HX12 HG12 C6
    go_wp2_with fail
    go_loopw [6] (fun iv wr => ∃ (k : Nat) (acc : List Int) (t : St) (A : Option Addr) (c : Nat), k ≤ N ∧ iv = .int .i64 (k : Int) ∧ acc.length = k ∧ t.1.length ≤ 10000000 ∧ (L, sL) = (acc ++ (pMany pOne (N - k) t).1, (pMany pOne (N - k) t).2) ∧ Blk wr gn 50 (nodeC ⟨u, (N2 : Int), K3, K4, K5, acc⟩ A c) ∧ Own cI wr w.heap.size 3 (.slice A acc.length c) acc ∧ Rin wr B g t (K + 8) ∧ w.grownBy wr (some g) ∧ Blk wr w.heap.size 50 zTN ∧ gn + 1 ≤ wr.heap.size) (fun iv _ => N - (intOf iv).toNat)
    case atStart => exact ⟨0, [], s0, none, 0, by omega, rfl, rfl, l7, by rw [Nat.sub_zero, List.nil_append, HLL.out], HX13.out, Own.nil_ _ _ _ _, HE13.out.more (by omega), HG13.out, HP13.out, hq13⟩
    case round =>
      obtain ⟨k, acc, t, A, c, hk, rfl, hal, htl, hLt, hx, ho, he, hg, hp, hqr⟩ := hrel
      obtain ⟨q, cq, fq, hqK, hqb⟩ := he.q
      by_cases hlt2 : k < N
      · have hlt' : (k : Int) < (N : Int) := by omega
        by_cases hbd : t.2 = true
        · have hq0 : q ≠ 0 := fun h => by rw [hqb.2 h] at hbd; cases hbd
          have hqi : ((q : Int) == 0) = false := by simp; omega
          have hqp : (q = 0) = False := by simp [hq0]
          have h := hLt
          rw [pMany_bad pOne _ hbd, List.append_nil] at h
          injection h with h1 h2
          subst h1 h2
          obtain ⟨Af, hAf⟩ : ∃ Af, Af = A := ⟨_, rfl⟩
          obtain ⟨cf, hcf⟩ : ∃ cf, cf = c := ⟨_, rfl⟩
          rw [← hAf, ← hcf] at hx ho
          have HXf := Lib.hid hx
          have HOf := Lib.hid ho
          have HEf := Lib.hid he
          have HGf := Lib.hid hg
          have HPf := Lib.hid hp
          clear hLt hx ho he hg hp hbd hqb hAf hcf hq0 hal HLL HBu HU
          have HXl := Lib.hid (show (nodeC ⟨u, (N2 : Int), K3, K4, K5, L⟩ Af cf).length = 99 by simp [nodeC, K3L.out, K4L.out, K5L.out])
          go_wp2_with (first
            | (refine wpList_load_mid rfl 50 (.tmp 4) rfl gn 0 rfl (nodeC ⟨u, (N2 : Int), K3, K4, K5, L⟩ Af cf) _ (Blk.whole HXf.out) Try.underlying50 rfl (by rw [HXl.out]; exact infoNode) ?_)
            | (refine wpList_store_blk rfl 50 _ _ rfl w.heap.size rfl (nodeC ⟨u, (N2 : Int), K3, K4, K5, L⟩ Af cf) rfl _ _ HPf.out (by rw [zTN_len, HXl.out]) (by rw [HXl.out]; exact infoNode) (nodeC_one _ _ _) ?_; intro wz hpz hgz; have HPz := Lib.hid hpz; have HGz := Lib.hid hgz; clear hpz hgz))
          refine bodyPost_ret (results_blk (g := w.heap.size) rfl _ _ _ _ _ rfl HPz.out Try.underlying50 rfl (by rw [HXl.out]; exact infoNode)) rfl ?_
          refine ⟨Af, cf, rfl, HOf.out.kept HGz.out (.inr (HPf.out.not_row (by decide) HOf.out).symm), HEf.out.grown HGz.out (by omega) hgl, grownBy_trans HGf.out HGz.out (fun _ e => .inr (by cases e; exact Nat.le_refl _))⟩
        · have hbd' : t.2 = false := by simpa using hbd
          obtain rfl : q = 0 := hqb.1 hbd'
          have HEd := Lib.hid ((he.none_ hbd').below (Below.refl _ wr).drew (Nat.le_refl _))
          have hx' : Blk wr.drew gn 50 (nodeC ⟨u, (N2 : Int), K3, K4, K5, acc⟩ A c) := hx
          have c98 : wr.drew.cell? ⟨gn, 98, none⟩ = some (.slice A k c) := by rw [hx'.cell 98 (nodeC_98 K3L.out K4L.out K5L.out), hal]
          have HXr := Lib.hid hx'
          have HOr := Lib.hid (show Own cI wr.drew w.heap.size 3 (.slice A k c) acc by have := ho.drew; rwa [hal] at this)
          have HGr := Lib.hid hg
          have HPr := Lib.hid (show Blk wr.drew w.heap.size 50 zTN from hp)
          have HLt := Lib.hid hLt
          have HAl := Lib.hid hal
          have HBd := Lib.hid hbd'
          clear hx hx' ho hg hp hLt he hqb hal hbd hbd'
          go_wp2_with fail
          refine wp_region_Y (by kernel_rfl) (fun w' : World => w'.cell? ⟨gn, 98, none⟩ = some (.slice A k c)) 7 ?_
          have hS : (fun w' : World => w'.cell? ⟨gn, 98, none⟩ = some (.slice A k c)) wr.drew := c98
          refine wpAnyY_pure (i := 0) (v := .pointer (some ⟨gn, 98, none⟩)) rfl (by kernel_rfl) (by kernel_rfl) (by kernel_rfl) (by kernel_rfl) (fun _ _ _ h => h) (Or.inl ⟨by rfl, ?_⟩) hS ?_
          · intro w' hw'
            go_simp
          try simp only [Act.put, List.setIfInBounds_toArray, List.set_cons_zero, List.set_cons_succ]
          refine wpAnyY_take (i := 1) (v := .slice A k c) rfl (by kernel_rfl) (by kernel_rfl) (by kernel_rfl) (by kernel_rfl) (by kernel_rfl) (fun _ _ _ h => h) (Or.inl ⟨by rfl, ?_⟩) hS ?_
          · intro w' hw'
            go_simp
          try simp only [Act.put, List.setIfInBounds_toArray, List.set_cons_zero, List.set_cons_succ]
          refine wpAnyY_pure (i := 2) (v := .pointer (some ⟨g, 0, none⟩)) rfl (by kernel_rfl) (by kernel_rfl) (by kernel_rfl) (by kernel_rfl) (fun _ _ _ h => h) (Or.inl ⟨by rfl, ?_⟩) hS ?_
          · intro w' hw'
            go_simp
          try simp only [Act.put, List.setIfInBounds_toArray, List.set_cons_zero, List.set_cons_succ]
          refine wpAnyY_one (i := 3) (by kernel_rfl) rfl (fun K' hK => ?_)
          go_simp
          go_at_call 94
          refine (C7.out _ t HEd.out htl).mono ?_
          rintro e w5 ⟨rfl, he5, hg5⟩
          have HE5 := Lib.hid he5
          have HX5 := Lib.hid (HXr.out.grown hg5 (by intro e; have := Option.some.inj e; omega))
          have HP5 := Lib.hid (HPr.out.grown hg5 (by intro e; have := Option.some.inj e; omega))
          have HO5 := Lib.hid (HOr.out.kept hg5 (.inr (fun e => by have := (HOr.out.lt _ e).1; omega)))
          have HG5 := Lib.hid (grownBy_trans (show w.grownBy wr.drew (some g) from ⟨HGr.out.os, HGr.out.tape, HGr.out.output, HGr.out.size, HGr.out.block⟩) hg5 (fun _ e => .inl e))
          have hq5 : gn + 1 ≤ w5.heap.size := Nat.le_trans hqr hg5.size
          have c98' : w5.cell? ⟨gn, 98, none⟩ = some (.slice A k c) := by rw [HX5.out.cell 98 (nodeC_98 K3L.out K4L.out K5L.out), HAl.out]
          have c98a : ∀ o, (w5.alloc o).cell? ⟨gn, 98, none⟩ = some (.slice A k c) := fun o => by rw [(HX5.out.alloc o).cell 98 (nodeC_98 K3L.out K4L.out K5L.out), HAl.out]
          clear he5 hg5 HEd HXr HPr HOr HGr c98
          refine hK _ _ (fun _ => c98') ?_
          clear hK K'
          try simp only [Act.put, List.setIfInBounds_toArray, List.set_cons_zero, List.set_cons_succ]
          refine wpAnyY_one (i := 4) (by kernel_rfl) rfl (fun K' hK => ?_)
          go_simp
          refine hK _ _ (fun _ => c98a _) ?_
          clear hK K'
          try simp only [Act.put, List.setIfInBounds_toArray, List.set_cons_zero, List.set_cons_succ]
          refine wpAnyY_one (i := 5) (by kernel_rfl) rfl (fun K' hK => ?_)
          refine step_append_rd rfl (.tmp 48) (.tmp 51) 48 rfl cI_one w.heap.size 3 i0 _ 8 Try.underlying48 hi0 hz0 hz1 hz2 rfl _ _ rfl (HO5.out.alloc _) (w5.heap.size + 1) _ 1 1 [(pOne t).1] rfl rfl (Rd.new cI w5 3 [(pOne t).1]) (by have := HAl.out; simp [maxLen]; omega) (by have := HAl.out; simp; omega) (by simp; omega) ?_
          intro v7 w7 hown7 hg7 hbb7
          have hb7 : Below w.heap.size w5 w7 := hbb7 _ _ (Nat.le_refl _) ((Below.refl _ w5).alloc (by omega) _)
          obtain ⟨A7, c7, rfl, -, -, -, -⟩ := hown7.shape' (n := k + 1) (by simp [HAl.out])
          have hx7 := (HX5.out.alloc _).grown hg7.by_ (HX5.out.not_row (by decide) HO5.out)
          have hp7 := (HP5.out.alloc _).grown hg7.by_ (HP5.out.not_row (by decide) HO5.out)
          have hsz7 : gn + 1 ≤ w7.heap.size := Nat.le_trans hq5 hb7.size
          have hsx := (hx7.set_ 98 (.slice A7 (k + 1) c7)).cast (show _ = nodeC ⟨u, (N2 : Int), K3, K4, K5, acc ++ [(pOne t).1]⟩ A7 c7 by
            rw [show k + 1 = (acc ++ [(pOne t).1]).length by simp [HAl.out]]; exact nodeC_row K3L.out K4L.out K5L.out _ _ _ _)
          have hgs := grownBy_set w7 gn 98 (.slice A7 (k + 1) c7)
          have hso := hown7.kept hgs (.inr (hx7.not_row (by decide) hown7).symm)
          have f98 := hx7.frozen 98
          have c98b : w7.cell? ⟨gn, 98, none⟩ = some (.slice A k c) := by rw [hx7.cell 98 (nodeC_98 K3L.out K4L.out K5L.out), HAl.out]
          have HSX := Lib.hid hsx
          have HSO := Lib.hid (show Own cI _ w.heap.size 3 (.slice A7 (acc ++ [(pOne t).1]).length c7) (acc ++ [(pOne t).1]) by rw [show (acc ++ [(pOne t).1]).length = k + 1 by simp [HAl.out]]; exact hso)
          have HSP := Lib.hid (hp7.grown hgs (by intro e; have := Option.some.inj e; omega))
          have HSE := Lib.hid (((HE5.out.more (show 1 ≤ K + 8 by omega)).low hb7 hgl).grown hgs (by omega) (by omega))
          have HSG := Lib.hid (grownBy_trans (grown_below HG5.out hb7) hgs (fun k e => .inr (by cases e; omega)))
          have hqs : gn + 1 ≤ (w7.setCell ⟨gn, 98, none⟩ (.slice A7 (k + 1) c7)).heap.size := Nat.le_trans hsz7 hgs.size
          clear hsx hgs hso hx7 hp7 hown7 hg7 hbb7 hb7 c98a c98'
          refine hK _ _ (fun _ => c98b) ?_
          clear hK K'
          try simp only [Act.put, List.setIfInBounds_toArray, List.set_cons_zero, List.set_cons_succ]
          refine wpAnyY_one (i := 6) (by kernel_rfl) rfl (fun K' hK => ?_)
          go_simp
          refine hK _ _ (fun _ => c98b) ?_
          clear hK K'
          try simp only [Act.put, List.setIfInBounds_toArray, List.set_cons_zero, List.set_cons_succ]
          refine wpAnyY_one (i := 7) (by kernel_rfl) rfl (fun K' hK => ?_)
          go_simp
          refine hK _ _ (fun h => absurd rfl h) (wpAnyY_done (by kernel_rfl) ?_ _)
          clear hK K'
          go_wp2_with fail
          refine ⟨⟨k + 1, acc ++ [(pOne t).1], (pOne t).2, A7, c7, by omega, by congr 1, by simp [HAl.out], Nat.le_trans (pOne_le t) htl, ?_, HSX.out, HSO.out, HSE.out, HSG.out, HSP.out, hqs⟩, by show N - ((k : Int) + 1).toNat < N - (k : Int).toNat; omega⟩
          have h := HLt.out
          rw [show N - k = (N - (k + 1)) + 1 by omega, pMany_succ pOne _ HBd.out] at h
          rw [h, List.append_assoc]; rfl
      · obtain rfl : k = N := by omega
        have h := hLt
        rw [Nat.sub_self] at h
        injection h with h1 h2
        have e1 : L = acc := by rw [h1]; simp [pMany]
        have e2 : sL = t := by rw [h2]; simp [pMany]
        subst e1 e2
        obtain ⟨Af, hAf⟩ : ∃ Af, Af = A := ⟨_, rfl⟩
        obtain ⟨cf, hcf⟩ : ∃ cf, cf = c := ⟨_, rfl⟩
        rw [← hAf, ← hcf] at hx ho
        have HXf := Lib.hid hx
        have HOf := Lib.hid ho
        have HEf := Lib.hid he
        have HGf := Lib.hid hg
        have HPf := Lib.hid hp
        clear hLt hx ho he hg hp hqb hAf hcf hal HLL HBu HU h1 h2
        have HXl := Lib.hid (show (nodeC ⟨u, (N2 : Int), K3, K4, K5, L⟩ Af cf).length = 99 by simp [nodeC, K3L.out, K4L.out, K5L.out])
        go_wp2_with (first
          | (refine wpList_load_mid rfl 50 (.tmp 4) rfl gn 0 rfl (nodeC ⟨u, (N2 : Int), K3, K4, K5, L⟩ Af cf) _ (Blk.whole HXf.out) Try.underlying50 rfl (by rw [HXl.out]; exact infoNode) ?_)
          | (refine wpList_store_blk rfl 50 _ _ rfl w.heap.size rfl (nodeC ⟨u, (N2 : Int), K3, K4, K5, L⟩ Af cf) rfl _ _ HPf.out (by rw [zTN_len, HXl.out]) (by rw [HXl.out]; exact infoNode) (nodeC_one _ _ _) ?_; intro wz hpz hgz; have HPz := Lib.hid hpz; have HGz := Lib.hid hgz; clear hpz hgz))
        refine bodyPost_ret (results_blk (g := w.heap.size) rfl _ _ _ _ _ rfl HPz.out Try.underlying50 rfl (by rw [HXl.out]; exact infoNode)) rfl ?_
        refine ⟨Af, cf, rfl, HOf.out.kept HGz.out (.inr (HPf.out.not_row (by decide) HOf.out).symm), HEf.out.grown HGz.out (by omega) hgl, grownBy_trans HGf.out HGz.out (fun _ e => .inr (by cases e; exact Nat.le_refl _))⟩
end Go.Proofs.Ytloglpamnalmeaa

/- CONTRACTS: the reader of the document's chapter 9: tree, whole. -/
namespace Go.Proofs.Ytloglpamnalmeaa
open Go.RowKit
set_option linter.unusedVariables false
set_option linter.unusedSimpArgs false

set_option maxRecDepth 100000 in
set_option maxHeartbeats 2000000 in
theorem rtree_any {w : World} {B g K : Nat} {s : St} (hE : Rin w B g s K) (hy : s.1.length ≤ 10000000) (hK : K ≤ 800000) :
    Calls Try.prog 90 #[.pointer (some ⟨g, 0, none⟩)] w fun e w' => ∃ v ts, e = .returned v ∧ OwnT w' w.heap.size v ts ∧ ts.map (·.x) = (pList pNode s).1 ∧ Rin w' B g (pList pNode s).2 (K + 9) ∧ w.grownBy w' (some g) := by
  obtain ⟨i0, hi0, hz0, hz1, hz2⟩ := info_parts infoNodeZ
  have HN := Lib.hid (rnum_any hE 1 1 rfl (by omega) (by omega) (by omega))
  obtain ⟨N, hN⟩ : ∃ N, N = (pNum 1 s).1 := ⟨_, rfl⟩
  obtain ⟨s0, hs0⟩ : ∃ s0, s0 = (pNum 1 s).2 := ⟨_, rfl⟩
  have e : pList pNode s = pMany pNode N s0 := by rw [hN, hs0]; rfl
  obtain ⟨L, hL⟩ : ∃ L, L = (pMany pNode N s0).1 := ⟨_, rfl⟩
  obtain ⟨sL, hsL⟩ : ∃ sL, sL = (pMany pNode N s0).2 := ⟨_, rfl⟩
  have hlt : N < 256 := by rw [hN]; exact pNum1_lt s
  have hl0 : s0.1.length ≤ 10000000 := by rw [hs0]; exact Nat.le_trans (pNum_le 1 s) hy
  have HLL := Lib.hid (show pMany pNode N s0 = (L, sL) by rw [hL, hsL])
  rw [e, ← hL, ← hsL]
  rw [← hN, ← hs0] at HN
  have hgl := hE.lt
  clear hN hs0 e hL hsL hE hy
  go_enter Try.func90, Try.ntmps90
  go_wp2_with fail
  refine HN.out.mono ?_
  rintro e w1 ⟨rfl, he1, hg1⟩
  have HE1 := Lib.hid he1
  have HG1 := Lib.hid hg1
  have hsz1 : w.heap.size ≤ w1.heap.size := hg1.size
  clear he1 hg1
  go_wp2_with fail
  go_loopw [3, 5] (fun rv iv wr => ∃ (k : Nat) (ts : List TN) (t : St), k ≤ N ∧ iv = .int .i64 (k : Int) ∧ ts.length = k ∧ t.1.length ≤ 10000000 ∧ (L, sL) = (ts.map (·.x) ++ (pMany pNode (N - k) t).1, (pMany pNode (N - k) t).2) ∧ OwnT wr w.heap.size rv ts ∧ Rin wr B g t (K + 9) ∧ w.grownBy wr (some g)) (fun _ iv _ => N - (intOf iv).toNat)
  case atStart => exact ⟨0, [], s0, by omega, rfl, rfl, hl0, by rw [Nat.sub_zero, List.map_nil, List.nil_append, HLL.out], OwnT.nil_ _ _, HE1.out.more (by omega), HG1.out⟩
  case round =>
    obtain ⟨k, ts, t, hk, rfl, hal, htl, hLt, ho, he, hg⟩ := hrel
    have HO := Lib.hid ho
    have HE := Lib.hid he
    have HG := Lib.hid hg
    have HLt := Lib.hid hLt
    have HAl := Lib.hid hal
    have hzr : w.heap.size ≤ wr.heap.size := hg.size
    obtain ⟨q, cq, -, hqK, hqb⟩ := he.q
    obtain ⟨Ar, cr, e1, -, -, -, -⟩ := ho.shape
    rw [hal] at e1
    subst e1
    clear ho hg hLt hal he
    by_cases hlt2 : k < N
    · have hlt' : (k : Int) < (N : Int) := by omega
      by_cases hbd : t.2 = true
      · have hq0 : q ≠ 0 := fun h => by rw [hqb.2 h] at hbd; cases hbd
        have hqi : ((q : Int) == 0) = false := by simp; omega
        have hqp : (q = 0) = False := by simp [hq0]
        have h := HLt.out
        rw [pMany_bad pNode _ hbd, List.append_nil] at h
        injection h with h1 h2
        have H1 := Lib.hid h1
        have H2 := Lib.hid h2
        clear hbd hqb hq0 h1 h2
        go_wp2_with fail
        go_ret
        first
          | exact ⟨_, rfl, ts, HO.out, H1.out.symm, by rw [H2.out]; exact HE.out, HG.out⟩
          | exact ⟨_, ts, rfl, HO.out, H1.out.symm, by rw [H2.out]; exact HE.out, HG.out⟩
      · have hbd' : t.2 = false := by simpa using hbd
        obtain rfl : q = 0 := hqb.1 hbd'
        have HE0 := Lib.hid (HE.out.none_ hbd')
        have HBd := Lib.hid hbd'
        clear hbd hbd' hqb
        go_wp2_with fail
        refine (rnode_any HE0.out (by omega) (by omega)).mono ?_
        rintro e w2 ⟨A2, c2, rfl, ho2, he2, hg2⟩
        have HE2 := Lib.hid he2
        have HG2 := Lib.hid (grownBy_trans HG.out hg2 (fun _ e => .inl e))
        have HO2 := Lib.hid (HO.out.kept hg2 (by omega))
        have HU2 := Lib.hid ho2
        have hsz2 : w.heap.size ≤ w2.heap.size := HG2.out.size
        have hx := pNode_ok t
        have HX := Lib.hid hx
        have HXl := Lib.hid (nodeC_len hx A2 c2)
        have HX1 := Lib.hid (nodeC_one (pNode t).1 A2 c2)
        clear he2 hg2 ho2 hx
        obtain ⟨x, hxx⟩ : ∃ x, x = (pNode t).1 := ⟨_, rfl⟩
        rw [← hxx] at HX HXl HX1 HU2 ⊢
        have HXx := Lib.hid hxx
        clear hxx
        have HRow := Lib.hid (rowS_below HO2.out.row ((Below.refl w2.heap.size w2).alloc (Nat.le_refl _) (.cells (nodeC x A2 c2).toArray 50)) (Nat.le_refl _))
        rw [HAl.out] at HRow
        go_wp2_with (first
          | (refine wpList_box_slice rfl 55 50 (.tmp 22) rfl i0 _ 99 (nodeC x A2 c2).toArray rfl HXl.out (by omega) (by omega) Try.underlying55 hi0 hz0 hz1 zTN_len ?_)
          | (at_builtin; refine wpList_append_row rfl (.tmp 20) (.tmp 23) 55 rfl 99 (by omega) w.heap.size 50 i0 _ 136 Try.underlying55 hi0 hz0 hz1 hz2 zTN_len _ k (tnC ts) rfl HRow.out (w2.heap.size + 1) (some ⟨w2.heap.size, 0, none⟩) 1 1 (nodeC x A2 c2) rfl HXl.out (by omega) (rdV_new w2 50 (nodeC x A2 c2)) HX1.out (by simp only [maxLen]; omega) (by omega) (by rw [World.size_alloc]; omega) ?_; intro v3 w3 hown3 hg3 hbb3; have HO3 := Lib.hid hown3; have HG3 := Lib.hid hg3; have HB3 := Lib.hid hbb3; clear hown3 hg3 hbb3))
        have hb3 : Below w.heap.size w2 w3 := HB3.out w.heap.size w2 (Nat.le_refl _) ((Below.refl _ w2).alloc hsz2 _)
        have hum : ∀ (t' : TN), Own cI w2 w.heap.size 3 (.slice t'.A t'.x.um.length t'.c) t'.x.um → Own cI w3 w.heap.size 3 (.slice t'.A t'.x.um.length t'.c) t'.x.um := fun t' h =>
          (h.alloc (.cells (nodeC x A2 c2).toArray 50)).kept' HG3.out.by_ (fun b e => rowS_unlike HRow.out (h.alloc (.cells (nodeC x A2 c2).toArray 50)) (by decide) b e)
        refine ⟨⟨k + 1, ts ++ [⟨x, A2, c2⟩], (pNode t).2, by omega, by congr 1, by rw [List.length_append, HAl.out]; rfl, Nat.le_trans (pNode_le t) htl, ?_, ⟨?_, ?_, ?_⟩, (HE2.out.more (by omega)).low hb3 hgl, grown_below HG2.out hb3⟩, by show N - ((k : Int) + 1).toNat < N - (k : Int).toNat; omega⟩
        · have h := HLt.out
          rw [show N - k = (N - (k + 1)) + 1 by omega, pMany_succ pNode _ HBd.out, ← HXx.out] at h
          rw [h, List.map_append, List.append_assoc]; rfl
        · rw [tnC_snoc, List.length_append, HAl.out]; exact HO3.out
        · intro t' ht'
          rcases List.mem_append.1 ht' with h | h
          · exact HO2.out.ok t' h
          · obtain rfl := List.mem_singleton.1 h; exact HX.out
        · intro t' ht'
          rcases List.mem_append.1 ht' with h | h
          · exact hum t' (HO2.out.um t' h)
          · obtain rfl := List.mem_singleton.1 h; exact hum _ (HU2.out.less hzr)
    · obtain rfl : k = N := by omega
      clear hqb
      go_wp2_with fail
      go_ret
      have h := HLt.out
      rw [Nat.sub_self] at h
      injection h with h1 h2
      subst h1 h2
      first
        | exact ⟨_, rfl, ts, HO.out, by simp [pMany], HE.out, HG.out⟩
        | exact ⟨_, ts, rfl, HO.out, by simp [pMany], HE.out, HG.out⟩

theorem chk_if (bad : Bool) (rest bs : List (BitVec 8)) (r : Bool) (X : List (BitVec 8)) : chkGood bad rest bs r (if r = true then [] else X) = chkGood bad rest bs r X := by
  cases r with
  | true => simp [chkGood]
  | false => simp
set_option maxRecDepth 100000 in
set_option maxHeartbeats 1000000 in
theorem rwhole_any {w : World} {B g K : Nat} {s : St} (hE : Rin w B g s K) {A : Option Addr} {n B1 : Nat} (c : Nat) {bs : List (BitVec 8)} (hb : Rd b8 w B1 A bs) (hn : bs.length = n) {A2 : Option Addr} {n2 B2 : Nat} (c2 : Nat) {X : List (BitVec 8)} (hx : Rd b8 w B2 A2 X) (hn2 : X.length = n2) (r : Bool) :
    Calls Try.prog 91 #[.pointer (some ⟨g, 0, none⟩), .slice A n c, .slice A2 n2 c2, .bool (!r)] w fun e w' => e = .returned (.bool (chkGood s.2 s.1 bs r X)) ∧ w = w' := by
  subst hn hn2
  obtain ⟨rest, bad⟩ := s
  show Calls _ _ _ _ fun e w' => e = .returned (.bool (chkGood bad rest bs r X)) ∧ w = w'
  have r1 := run_str (P := Try.prog) hb 24 9 5 c Try.underlying24 Try.underlying5 Try.underlying9
  have r2 := run_str (P := Try.prog) hx 24 9 5 c2 Try.underlying24 Try.underlying5 Try.underlying9
  have hs := str_beq' bs X
  obtain ⟨⟨A0, c0, q, h1, -, -, -, hqb⟩, -⟩ := hE
  replace h1 : Blk w g 155 [.slice A0 rest.length c0, .int .i64 (q : Int)] := h1
  replace hqb : bad = false ↔ q = 0 := hqb
  have cr := h1.cell 0 rfl
  have cq := h1.cell 1 rfl
  clear h1
  cases bad with
  | true =>
    have hq0 : q ≠ 0 := fun h => by cases hqb.2 h
    have hqi : ((q : Int) == 0) = false := by simp; omega
    have hqp : (q = 0) = False := by simp [hq0]
    clear hqb hq0
    go_enter Try.func91, Try.ntmps91
    go_wp2
    go_ret
    exact ⟨rfl, rfl⟩
  | false =>
    obtain rfl : q = 0 := hqb.1 rfl
    clear hqb
    cases rest with
    | cons y ys =>
      have hl : (((y :: ys).length : Int) == 0) = false := by simp; omega
      obtain ⟨l, hl'⟩ : ∃ l, l = (y :: ys).length := ⟨_, rfl⟩
      rw [← hl'] at cr hl
      have hl0 : (l = 0) = False := by simp [hl']
      clear hl'
      go_enter Try.func91, Try.ntmps91
      go_wp2
      go_ret
      exact ⟨rfl, rfl⟩
    | nil =>
      replace cr : w.cell? ⟨g, 0, none⟩ = some (.slice A0 0 c0) := cr
      cases r with
      | true =>
        go_enter Try.func91, Try.ntmps91
        go_wp2
        go_ret
        exact ⟨by simp [chkGood], rfl⟩
      | false =>
        go_enter Try.func91, Try.ntmps91
        go_wp2
        go_ret
        exact ⟨by simp [chkGood], rfl⟩
/-- a reader is made -/
theorem rin_new {w : World} {B' : Nat} {A : Option Addr} {n c : Nat} {bs : List (BitVec 8)} (hr : Rd b8 w B' A bs) (hB' : B' ≤ w.heap.size) (hn : bs.length = n) (hnc : n ≤ c) (W1 : World) (h1 : w.alloc (.cells #[.slice A n c, .int .i64 0] 155) = W1) :
    Rin W1 w.heap.size w.heap.size (bs, false) 0 ∧ Below w.heap.size w W1 ∧ W1.heap.size = w.heap.size + 1 := by
  subst h1
  have hb : Below w.heap.size w (w.alloc (.cells #[.slice A n c, .int .i64 0] 155)) := (Below.refl _ _).alloc (Nat.le_refl _) _
  refine ⟨⟨⟨A, c, 0, ?_, (hr.below (hb.mono hB')).more hB', ?_, Nat.le_refl _, by simp⟩, Nat.le_refl _⟩, hb, by simp⟩
  · show Blk _ _ _ [.slice A bs.length c, .int .i64 ((0 : Nat) : Int)]
    rw [hn]
    exact Blk.new w _ _
  · show bs.length ≤ c
    omega
end Go.Proofs.Ytloglpamnalmeaa

/- CONTRACT: burrowref09.TakeTree: only whether the bytes are good. -/
namespace Go.Proofs.Ytloglpamnalmeaa
open Go.RowKit
set_option linter.unusedVariables false
set_option linter.unusedSimpArgs false

set_option maxRecDepth 100000 in
set_option maxHeartbeats 2000000 in
theorem rtakeTree_any {w : World} {B' : Nat} {A : Option Addr} {n c : Nat} {bs : List (BitVec 8)} (hr : Rd b8 w B' A bs) (hB' : B' ≤ w.heap.size) (hn : bs.length = n) (hnc : n ≤ c) (hy : n ≤ 1000000) :
    Calls Try.prog 41 #[.slice A n c] w fun e w' => Below w.heap.size w w' ∧ ∃ v, e = .returned (.tuple #[v, .bool (goodT bs)]) := by
  have HR := Lib.hid hr
  have HN := Lib.hid hn
  have hb0 : bs.length ≤ 1000000 := by rw [hn]; exact hy
  have C1 := Lib.hid (fun (W : World) (h : Rin W w.heap.size w.heap.size (bs, false) 0) => rtree_any h (show bs.length ≤ 10000000 by omega) (by omega))
  obtain ⟨L, hL⟩ : ∃ L, L = (pList pNode (bs, false)).1 := ⟨_, rfl⟩
  obtain ⟨⟨R, D⟩, hs⟩ : ∃ s, s = (pList pNode (bs, false)).2 := ⟨_, rfl⟩
  obtain ⟨q, hq⟩ : ∃ q, q = goodT bs := ⟨_, rfl⟩
  have hqq : q = chkGood D R bs (treeBadX L || decide (65536 < (treeBX L).length)) (treeBX L) := by rw [hq]; unfold goodT; rw [← hL, ← hs]
  have hLum : ∀ x ∈ L, x.um.length ≤ 300 := by rw [hL]; exact pMany_all pNode (fun x => x.um.length ≤ 300) (fun s => by have := pNode_um s; omega) _ _
  have hLl : L.length ≤ 255 := by rw [hL]; exact pList_len _ _
  rw [← hq]
  simp only [← hL, ← hs] at C1
  have HQ := Lib.hid hqq
  have HLum := Lib.hid hLum
  have HF := Lib.hid (rin_new (c := c) hr hB' hn hnc)
  clear hr hn hb0 hL hs hq hqq hLum
  go_enter Try.func41, Try.ntmps41
  go_wp2_with fail
  generalize hW1 : World.alloc w _ = W1
  obtain ⟨he1, hb1, hz1⟩ := HF.out W1 hW1
  clear hW1 HF
  have HE1 := Lib.hid he1
  have HB1 := Lib.hid hb1
  clear he1 hb1
  refine (C1.out _ HE1.out).mono ?_
  rintro e w2 ⟨v2, ts, rfl, ho2, hx2, he2, hg2⟩
  have hsz2 : W1.heap.size ≤ w2.heap.size := hg2.size
  have HB2 := Lib.hid (HB1.out.trans (below_grown hg2 (by omega) (by omega)) : Below w.heap.size w w2)
  obtain ⟨A2, c2, rfl, hr2, -, -, -⟩ := ho2.shape
  have HE2 := Lib.hid he2
  have HX2 := Lib.hid hx2
  have hnl : ts.length ≤ 255 := by rw [← List.length_map (f := fun t : TN => t.x), hx2]; exact hLl
  have hum2 : ∀ t ∈ ts, t.x.um.length ≤ 300 := fun t ht => HLum.out t.x (by rw [← hx2]; exact List.mem_map_of_mem ht)
  have hput := refPutTree_any (n := ts.length) (c := c2) hr2 (Nat.le_refl _) rfl (by omega) hum2
  rw [treeBad_X, treeB_X, hx2] at hput
  obtain ⟨rb, hrb⟩ : ∃ rb, rb = (treeBadX L || decide (65536 < (treeBX L).length)) := ⟨_, rfl⟩
  obtain ⟨X, hX⟩ : ∃ X, X = (if rb = true then [] else treeBX L) := ⟨_, rfl⟩
  rw [← hrb, ← hX] at hput
  have HPut := Lib.hid hput
  have HQ' := Lib.hid (show chkGood D R bs rb X = q by rw [hX, chk_if, HQ.out, hrb])
  clear hput hx2 he2 hg2 ho2 hr2 hum2 hrb hX HE1 HB1 C1 HQ
  go_wp2_with fail
  refine HPut.out.mono ?_
  rintro e w3 ⟨v3, rfl, ho3, hb3⟩
  obtain ⟨l3, hl3⟩ : ∃ l, X.length = l := ⟨_, rfl⟩
  obtain ⟨A3, c3, rfl, hr3, -, -, -⟩ := ho3.shape' hl3
  have hsz3 : w2.heap.size ≤ w3.heap.size := hb3.size
  have HB3 := Lib.hid (HB2.out.trans (hb3.mono (by omega)))
  have hwh := rwhole_any (HE2.out.below hb3 (Nat.le_refl _)) c (HR.out.below (HB3.out.mono hB')) HN.out c3 hr3 hl3 rb
  rw [show chkGood (R, D).2 (R, D).1 bs rb X = q from HQ'.out] at hwh
  have HW := Lib.hid hwh
  clear hwh hl3 ho3 hr3 hb3 HPut HE2 HB2
  go_wp2_with fail
  refine HW.out.mono ?_
  rintro e w4 ⟨rfl, rfl⟩
  cases q with
  | true =>
    go_wp2_with fail
    go_ret2
    exact ⟨HB3.out, _, rfl⟩
  | false =>
    go_wp2_with fail
    go_ret2
    exact ⟨HB3.out, _, rfl⟩
end Go.Proofs.Ytloglpamnalmeaa
