/- CONTRACT: wire.readNode. -/
import Derived.Test.YtloglpamnalmeaaManyInt
import Derived.Test.YtloglpamnalmeaaPutTree
namespace Go.Proofs.Ytloglpamnalmeaa
open Go.RowKit
set_option linter.unusedVariables false
set_option linter.unusedSimpArgs false

theorem eye_bad {w : World} {B g : Nat} {ys : List (BitVec 8)} {bad : Bool} (h : Eye w B g ys bad) (b : Bool) : Eye (w.setCell ⟨g, 1, none⟩ (.bool b)) B g ys b := by
  have hle := h.le
  obtain ⟨⟨A, c, h1, h2, h3⟩, h4⟩ := h
  exact ⟨⟨A, c, h1.set_ 1 _, h2.below ((Below.refl B w).setCell (p := ⟨g, 1, none⟩) hle _), h3⟩, h4⟩
theorem wf_small {n : Nat} (h : n < 9223372036854775808) : (Lit.int .i64 (n : Int)).wf = true := by
  simp only [Lit.wf, Bool.and_eq_true, decide_eq_true_eq]
  have h1 : (-9223372036854775808 : Int) ≤ (n : Int) := by omega
  have h2 : (n : Int) ≤ (9223372036854775807 : Int) := by omega
  exact ⟨h1, h2⟩
theorem results_blk {P : Program} {fn : Func} {p : Tmp} {ty : TypeId} (h : fn.results = #[.cell p ty]) (tmps : Array Value) (w : World) (g : Nat) (T : TypeId) (xs : List Value) (d : TypeDesc)
    (hp : tmps.getD p undef = .pointer (some ⟨g, 0, none⟩)) (hA : Blk w g T xs) (hu : P.underlying ty = some d) (hd : d.isRow = true) (hi : (P.info? ty).map (·.size) = some xs.length) :
    (results fn tmps).run P w = .ok (.agg xs.toArray) w := by
  have := results_arr h tmps w g T xs d hp hA.arr hu hd hi
  rwa [List.map_id'] at this
theorem nodeC_set {u : Bool} {n : Int} {K3 K4 K5 : List (BitVec 8)} {L : List Int} (h : (⟨u, n, K3, K4, K5, []⟩ : NodeD).Ok) (A : Option Addr) (c : Nat) : (nodeC ⟨u, n, K3, K4, K5, []⟩ none 0).set 98 (.slice A L.length c) = nodeC ⟨u, n, K3, K4, K5, L⟩ A c := by
  obtain ⟨h1, h2, h3, -, -⟩ := h
  simp only at h1 h2 h3
  unfold nodeC
  rw [List.set_append_right _ _ (by simp [h1]), List.set_append_right _ _ (by simp [h1, h2]), List.set_append_right _ _ (by simp [h1, h2, h3])]
  simp [h1, h2, h3]
set_option maxRecDepth 100000 in
theorem built_node (u : Bool) (n : Int) (K3 K4 K5 : List (BitVec 8)) (h3 : K3.length = 32) (h4 : K4.length = 32) (h5 : K5.length = 32) :
    Try.prog.built 50 [(0, .bool u), (1, .int .i64 n), (2, .agg (K3.map b8).toArray), (3, .agg (K4.map b8).toArray), (4, .agg (K5.map b8).toArray)] = some (nodeC ⟨u, n, K3, K4, K5, []⟩ none 0).toArray := by
  obtain ⟨x0, x1, x2, x3, x4, x5, x6, x7, x8, x9, x10, x11, x12, x13, x14, x15, x16, x17, x18, x19, x20, x21, x22, x23, x24, x25, x26, x27, x28, x29, x30, x31, rfl⟩ := list32 h3
  obtain ⟨y0, y1, y2, y3, y4, y5, y6, y7, y8, y9, y10, y11, y12, y13, y14, y15, y16, y17, y18, y19, y20, y21, y22, y23, y24, y25, y26, y27, y28, y29, y30, y31, rfl⟩ := list32 h4
  obtain ⟨z0, z1, z2, z3, z4, z5, z6, z7, z8, z9, z10, z11, z12, z13, z14, z15, z16, z17, z18, z19, z20, z21, z22, z23, z24, z25, z26, z27, z28, z29, z30, z31, rfl⟩ := list32 h5
  kernel_rfl
set_option maxRecDepth 100000 in
set_option maxHeartbeats 2000000 in
theorem readNode_any {w : World} {B g : Nat} {s : St} (hE : EyeS w B g s) (hy : s.1.length ≤ 10000000) :
    Calls Try.prog 72 #[.pointer (some ⟨g, 0, none⟩)] w fun e w' => ∃ A c, e = .returned (.agg (nodeC (pNode s).1 A c).toArray) ∧ Own cI w' w.heap.size 3 (.slice A (pNode s).1.um.length c) (pNode s).1.um ∧ EyeS w' B g (pNode s).2 ∧ w.grownBy w' (some g) := by
  obtain ⟨N1, hN1⟩ : ∃ N1, N1 = (pNum 1 s).1 := ⟨_, rfl⟩
  obtain ⟨⟨r1, d1⟩, hs1⟩ : ∃ s1, s1 = (pNum 1 s).2 := ⟨_, rfl⟩
  have e1 : nodeS1 s = (r1, d1 || decide (1 < N1)) := by unfold nodeS1; rw [← hs1, ← hN1]
  obtain ⟨t1, ht1⟩ : ∃ t1, t1 = nodeS1 s := ⟨_, rfl⟩
  obtain ⟨N2, hN2⟩ : ∃ N2, N2 = (pNum 1 t1).1 := ⟨_, rfl⟩
  obtain ⟨s2, hs2⟩ : ∃ s2, s2 = (pNum 1 t1).2 := ⟨_, rfl⟩
  obtain ⟨K3, hK3⟩ : ∃ K3, K3 = (pTk 32 s2).1 := ⟨_, rfl⟩
  obtain ⟨s3, hs3⟩ : ∃ s3, s3 = (pTk 32 s2).2 := ⟨_, rfl⟩
  obtain ⟨K4, hK4⟩ : ∃ K4, K4 = (pTk 32 s3).1 := ⟨_, rfl⟩
  obtain ⟨s4, hs4⟩ : ∃ s4, s4 = (pTk 32 s3).2 := ⟨_, rfl⟩
  obtain ⟨K5, hK5⟩ : ∃ K5, K5 = (pTk 32 s4).1 := ⟨_, rfl⟩
  obtain ⟨s5, hs5⟩ : ∃ s5, s5 = (pTk 32 s4).2 := ⟨_, rfl⟩
  obtain ⟨L, hL⟩ : ∃ L, L = (pList pOne s5).1 := ⟨_, rfl⟩
  obtain ⟨s6, hs6⟩ : ∃ s6, s6 = (pList pOne s5).2 := ⟨_, rfl⟩
  have e2 : nodeS2 s = s2 := by rw [nodeS2, hs2, ht1]
  have e3 : nodeS3 s = s3 := by rw [nodeS3, hs3, e2]
  have e4 : nodeS4 s = s4 := by rw [nodeS4, hs4, e3]
  have e5 : nodeS5 s = s5 := by rw [nodeS5, hs5, e4]
  have ep : pNode s = (⟨decide (N1 = 1), (N2 : Int), K3, K4, K5, L⟩, s6) := by rw [pNode, e2, e3, e4, e5, ← ht1, ← hN1, ← hN2, ← hK3, ← hK4, ← hK5, ← hL, ← hs6]
  have l1 : r1.length ≤ 10000000 := by have := pNum_le 1 s; rw [← hs1] at this; exact Nat.le_trans this hy
  have l2 : t1.1.length ≤ 10000000 := by rw [ht1, e1]; exact l1
  have l3 : s2.1.length ≤ 10000000 := by rw [hs2]; exact Nat.le_trans (pNum_le 1 t1) l2
  have l4 : s3.1.length ≤ 10000000 := by rw [hs3]; exact Nat.le_trans (pTk_le 32 s2) l3
  have l5 : s4.1.length ≤ 10000000 := by rw [hs4]; exact Nat.le_trans (pTk_le 32 s3) l4
  have l6 : s5.1.length ≤ 10000000 := by rw [hs5]; exact Nat.le_trans (pTk_le 32 s4) l5
  have k1 : N1 < 256 := by rw [hN1]; exact pNum1_lt s
  have k2 : N2 < 256 := by rw [hN2]; exact pNum1_lt t1
  have k3 : K3.length = 32 := by rw [hK3]; exact pTk_len _ _
  have k4 : K4.length = 32 := by rw [hK4]; exact pTk_len _ _
  have k5 : K5.length = 32 := by rw [hK5]; exact pTk_len _ _
  have C1 := Lib.hid (fun (W : World) (h : EyeS W B g s) => (show Calls Try.prog 60 #[.pointer (some ⟨g, 0, none⟩), .int .i64 1] W fun e w' => e = .returned (.int .i64 (N1 : Int)) ∧ EyeS w' B g (r1, d1) ∧ W.grownBy w' (some g) by rw [hN1, hs1]; exact numS_any h 1 1 rfl (by omega) (by omega)))
  have C2 := Lib.hid (fun (W : World) (h : EyeS W B g t1) => (show Calls Try.prog 60 #[.pointer (some ⟨g, 0, none⟩), .int .i64 1] W fun e w' => e = .returned (.int .i64 (N2 : Int)) ∧ EyeS w' B g s2 ∧ W.grownBy w' (some g) by rw [hN2, hs2]; exact numS_any h 1 1 rfl (by omega) (by omega)))
  have C3 := Lib.hid (fun (W : World) (h : EyeS W B g s2) => (show Calls Try.prog 107 #[.pointer (some ⟨g, 0, none⟩)] W fun e w' => e = .returned (.agg (K3.map b8).toArray) ∧ EyeS w' B g s3 ∧ W.grownBy w' (some g) by rw [← arrV_mk, hK3, hs3]; exact keyS_any h (by omega)))
  have C4 := Lib.hid (fun (W : World) (h : EyeS W B g s3) => (show Calls Try.prog 107 #[.pointer (some ⟨g, 0, none⟩)] W fun e w' => e = .returned (.agg (K4.map b8).toArray) ∧ EyeS w' B g s4 ∧ W.grownBy w' (some g) by rw [← arrV_mk, hK4, hs4]; exact keyS_any h (by omega)))
  have C5 := Lib.hid (fun (W : World) (h : EyeS W B g s4) => (show Calls Try.prog 59 #[.pointer (some ⟨g, 0, none⟩)] W fun e w' => e = .returned (.agg (K5.map b8).toArray) ∧ EyeS w' B g s5 ∧ W.grownBy w' (some g) by rw [← arrV_mk, hK5, hs5]; exact sumS_any h (by omega)))
  have C6 := Lib.hid (fun (W : World) (h : EyeS W B g s5) => (show Calls Try.prog 108 #[.pointer (some ⟨g, 0, none⟩), .func (.func 109) #[] #[]] W fun e w' => ∃ v, e = .returned v ∧ Own cI w' W.heap.size 3 v L ∧ EyeS w' B g s6 ∧ W.grownBy w' (some g) by rw [hL, hs6]; exact manyInt_any h (by omega)))
  have T1 := Lib.hid (show t1 = (r1, d1 || decide (1 < N1)) by rw [ht1, e1])
  rw [ep]
  have hgl := hE.lt
  have hle := hE.le
  have hE0 := hE.below ((Below.refl w.heap.size w).alloc (Nat.le_refl _) (.cells Try.zeroCells50 50)) (Nat.le_refl _)
  have HE0 := Lib.hid hE0
  have HP0 := Lib.hid (Blk.new w 50 zTN)
  have HG0 := Lib.hid (World.grownBy_alloc w (.cells Try.zeroCells50 50) (some g))
  clear hE0 hE hN1 hs1 e1 ht1 hN2 hs2 hK3 hs3 hK4 hs4 hK5 hs5 hL hs6 e2 e3 e4 e5 ep hy l1 l2 l3 l4 l5 l6
  have K3L := Lib.hid k3
  have K4L := Lib.hid k4
  have K5L := Lib.hid k5
  obtain ⟨u, hu'⟩ : ∃ u, u = decide (N1 = 1) := ⟨_, rfl⟩
  have hu : ((N1 : Int) == 1) = u := by rw [hu', Bool.eq_iff_iff]; simp; omega
  rw [← hu']
  obtain ⟨u1, hu1'⟩ : ∃ u1, u1 = decide (1 < N1) := ⟨_, rfl⟩
  have hu1 : decide ((1 : Int) < (N1 : Int)) = u1 := by rw [hu1', Bool.eq_iff_iff]; simp; omega
  rw [← hu1'] at T1
  have HWf := Lib.hid (show (Lit.int .i64 (N2 : Int)).wf = true from wf_small (by omega))
  have HBu := Lib.hid (built_node u (N2 : Int) K3 K4 K5 k3 k4 k5)
  clear k3 k4 k5 hu' hu1'
  go_enter Try.func72, Try.ntmps72
  go_wp2_with fail
  generalize hW1 : World.alloc w _ = W1
  have HE1 := Lib.hid (show EyeS W1 B g s by rw [← hW1]; exact HE0.out)
  have HP1 := Lib.hid (show Blk W1 w.heap.size 50 zTN by rw [← hW1]; exact HP0.out)
  have HG1 := Lib.hid (show w.grownBy W1 (some g) by rw [← hW1]; exact HG0.out)
  have hq1 : w.heap.size + 1 ≤ W1.heap.size := by rw [← hW1]; simp
  clear hW1 HE0 HP0 HG0
  refine (C1.out _ HE1.out).mono ?_
  rintro e w2 ⟨rfl, he2, hg2⟩
  have HE2 := Lib.hid he2
  have HP2 := Lib.hid (HP1.out.grown hg2 (by intro e; have := Option.some.inj e; omega))
  have HG2 := Lib.hid (grownBy_trans HG1.out hg2 (fun _ e => .inl e))
  have hq2 := Nat.le_trans hq1 hg2.size
  obtain ⟨⟨A0, c0, h1, -, -⟩, -⟩ := he2
  have q1 := h1.cell 1 rfl
  have f1 := h1.frozen 1
  clear h1 hg2 HE1 HP1 HG1 C1
  cases d1 with
  | true =>
    go_wp2_with fail
    generalize hW3 : World.setCell w2 _ _ = W3
    have hg3 : w2.grownBy W3 (some g) := by rw [← hW3]; exact grownBy_set w2 g 1 _
    have he3 : EyeS W3 B g t1 := by rw [T1.out, ← hW3]; exact eye_bad HE2.out _
    have HE3 := Lib.hid he3
    have HP3 := Lib.hid (HP2.out.grown hg3 (by intro e; have := Option.some.inj e; omega))
    have HG3 := Lib.hid (grownBy_trans HG2.out hg3 (fun _ e => .inl e))
    have hq3 := Nat.le_trans hq2 hg3.size
    clear hW3 hg3 he3 HE2 HP2 HG2 T1
    refine (C2.out _ HE3.out).mono ?_
    rintro e w4 ⟨rfl, he4, hg4⟩
    have HE4 := Lib.hid he4
    have HP4 := Lib.hid (HP3.out.grown hg4 (by intro e; have := Option.some.inj e; omega))
    have HG4 := Lib.hid (grownBy_trans HG3.out hg4 (fun _ e => .inl e))
    have hq4 := Nat.le_trans hq3 hg4.size
    clear he4 hg4 HE3 HP3 HG3 C2
    go_wp2_with fail
    refine (C3.out _ HE4.out).mono ?_
    rintro e w5 ⟨rfl, he5, hg5⟩
    have HE5 := Lib.hid he5
    have HP5 := Lib.hid (HP4.out.grown hg5 (by intro e; have := Option.some.inj e; omega))
    have HG5 := Lib.hid (grownBy_trans HG4.out hg5 (fun _ e => .inl e))
    have hq5 := Nat.le_trans hq4 hg5.size
    clear he5 hg5 HE4 HP4 HG4 C3
    go_wp2_with fail
    refine (C4.out _ HE5.out).mono ?_
    rintro e w6 ⟨rfl, he6, hg6⟩
    have HE6 := Lib.hid he6
    have HP6 := Lib.hid (HP5.out.grown hg6 (by intro e; have := Option.some.inj e; omega))
    have HG6 := Lib.hid (grownBy_trans HG5.out hg6 (fun _ e => .inl e))
    have hq6 := Nat.le_trans hq5 hg6.size
    clear he6 hg6 HE5 HP5 HG5 C4
    go_wp2_with fail
    refine (C5.out _ HE6.out).mono ?_
    rintro e w7 ⟨rfl, he7, hg7⟩
    have HE7 := Lib.hid he7
    have HP7 := Lib.hid (HP6.out.grown hg7 (by intro e; have := Option.some.inj e; omega))
    have HG7 := Lib.hid (grownBy_trans HG6.out hg7 (fun _ e => .inl e))
    have hq7 := Nat.le_trans hq6 hg7.size
    clear he7 hg7 HE6 HP6 HG6 C5
    have HX7 := Lib.hid (nodeC_one ⟨u, (N2 : Int), K3, K4, K5, []⟩ none 0)
    go_wp2_with (first
      | (refine wpList_build_at rfl 50 [(0, .tmp 19), (1, .tmp 21), (2, .tmp 23), (3, .tmp 25), (4, .tmp 27)] rfl _ _ rfl HBu.out ?_)
      | (refine wpList_store_blk rfl 50 _ _ rfl w7.heap.size rfl (nodeC ⟨u, (N2 : Int), K3, K4, K5, []⟩ none 0) rfl _ _ (Blk.new w7 50 zTN) (by rw [zTN_len]; simp [nodeC, K3L.out, K4L.out, K5L.out]) (by simp only [nodeC, List.length_append, List.length_cons, List.length_map, K3L.out, K4L.out, K5L.out]; exact infoNode) HX7.out ?_; intro w8 hp8 hg8; have HN8 := Lib.hid hp8; have HG8' := Lib.hid hg8; clear hp8 hg8))
    have hb8 : Below w7.heap.size w7 w8 := below_box HG8'.out
    have hgl7 : g < w7.heap.size := HE7.out.lt
    have HE8 := Lib.hid (show EyeS w8 B g s5 from HE7.out.below hb8 (Nat.le_refl _))
    have HP8 := Lib.hid (HP7.out.below hb8 (by omega))
    have HG8 := Lib.hid (grown_below HG7.out (hb8.mono (by omega)))
    have hq8 : w7.heap.size + 1 ≤ w8.heap.size := by have := HG8'.out.size; simpa using this
    clear hb8 HG8' HE7 HP7 HG7
    refine (C6.out _ HE8.out).mono ?_
    rintro e w9 ⟨v9, rfl, ho9, he9, hg9⟩
    obtain ⟨A9, c9, rfl, -, -, -, -⟩ := ho9.shape' (n := L.length) rfl
    have HE9 := Lib.hid he9
    have HO9 := Lib.hid ho9
    have hn9 := HN8.out.grown hg9 (by intro e; have := Option.some.inj e; omega)
    have HP9 := Lib.hid (HP8.out.grown hg9 (by intro e; have := Option.some.inj e; omega))
    have HG9 := Lib.hid (grownBy_trans HG8.out hg9 (fun _ e => .inl e))
    have hq9 : w8.heap.size ≤ w9.heap.size := hg9.size
    have c98 := nodeC_um hn9 ⟨K3L.out, K4L.out, K5L.out, HWf.out, fun _ h => by cases h⟩
    have f98 := hn9.frozen 98
    have HNs := Lib.hid ((hn9.set_ 98 (.slice A9 L.length c9)).cast (show _ = nodeC ⟨u, (N2 : Int), K3, K4, K5, L⟩ A9 c9 from nodeC_set ⟨K3L.out, K4L.out, K5L.out, HWf.out, fun _ h => by cases h⟩ A9 c9))
    have HPs := Lib.hid (HP9.out.far (p := ⟨w7.heap.size, 98, none⟩) (by show w.heap.size ≠ w7.heap.size; omega) (.slice A9 L.length c9))
    clear hn9 HP8 HG8 HN8 HE8 HP9 he9 hg9 ho9 C6
    go_wp2_with (first
      | (refine wpList_load_mid rfl 50 (.tmp 4) rfl w7.heap.size 0 rfl (nodeC ⟨u, (N2 : Int), K3, K4, K5, L⟩ A9 c9) _ (Blk.whole HNs.out) Try.underlying50 rfl (by simp only [nodeC, List.length_append, List.length_cons, List.length_map, K3L.out, K4L.out, K5L.out]; exact infoNode) ?_)
      | (refine wpList_store_blk rfl 50 _ _ rfl w.heap.size rfl (nodeC ⟨u, (N2 : Int), K3, K4, K5, L⟩ A9 c9) rfl _ _ HPs.out (by rw [zTN_len]; simp [nodeC, K3L.out, K4L.out, K5L.out]) (by simp only [nodeC, List.length_append, List.length_cons, List.length_map, K3L.out, K4L.out, K5L.out]; exact infoNode) (nodeC_one _ _ _) ?_; intro w10 hp10 hg10; have HP10 := Lib.hid hp10; have HG10 := Lib.hid hg10; clear hp10 hg10))
    refine bodyPost_ret (results_blk (g := w.heap.size) rfl _ _ _ _ _ rfl HP10.out Try.underlying50 rfl (by simp only [nodeC, List.length_append, List.length_cons, List.length_map, K3L.out, K4L.out, K5L.out]; exact infoNode)) rfl ?_
    have hb9 : Below w7.heap.size w9 (w9.setCell ⟨w7.heap.size, 98, none⟩ (.slice A9 L.length c9)) := (Below.refl _ _).setCell (p := ⟨w7.heap.size, 98, none⟩) (Nat.le_refl _) _
    refine ⟨A9, c9, rfl, ?_, eye_grown (eye_low HE9.out hb9 hgl7) HG10.out (by omega) hgl, grownBy_trans (grown_below HG9.out (hb9.mono (by omega))) HG10.out (fun _ e => .inr (by cases e; exact Nat.le_refl _))⟩
    refine ((HO9.out.kept (grownBy_set w9 w7.heap.size 98 _) (.inr (fun e => by have := HO9.out.lt _ e; omega))).kept HG10.out (.inr (fun e => by have := HO9.out.lt _ e; omega))).less (by omega)
  | false =>
    go_wp2_with fail
    generalize hW3 : World.setCell w2 _ _ = W3
    have hg3 : w2.grownBy W3 (some g) := by rw [← hW3]; exact grownBy_set w2 g 1 _
    have he3 : EyeS W3 B g t1 := by rw [T1.out, ← hW3]; exact eye_bad HE2.out _
    have HE3 := Lib.hid he3
    have HP3 := Lib.hid (HP2.out.grown hg3 (by intro e; have := Option.some.inj e; omega))
    have HG3 := Lib.hid (grownBy_trans HG2.out hg3 (fun _ e => .inl e))
    have hq3 := Nat.le_trans hq2 hg3.size
    clear hW3 hg3 he3 HE2 HP2 HG2 T1
    refine (C2.out _ HE3.out).mono ?_
    rintro e w4 ⟨rfl, he4, hg4⟩
    have HE4 := Lib.hid he4
    have HP4 := Lib.hid (HP3.out.grown hg4 (by intro e; have := Option.some.inj e; omega))
    have HG4 := Lib.hid (grownBy_trans HG3.out hg4 (fun _ e => .inl e))
    have hq4 := Nat.le_trans hq3 hg4.size
    clear he4 hg4 HE3 HP3 HG3 C2
    go_wp2_with fail
    refine (C3.out _ HE4.out).mono ?_
    rintro e w5 ⟨rfl, he5, hg5⟩
    have HE5 := Lib.hid he5
    have HP5 := Lib.hid (HP4.out.grown hg5 (by intro e; have := Option.some.inj e; omega))
    have HG5 := Lib.hid (grownBy_trans HG4.out hg5 (fun _ e => .inl e))
    have hq5 := Nat.le_trans hq4 hg5.size
    clear he5 hg5 HE4 HP4 HG4 C3
    go_wp2_with fail
    refine (C4.out _ HE5.out).mono ?_
    rintro e w6 ⟨rfl, he6, hg6⟩
    have HE6 := Lib.hid he6
    have HP6 := Lib.hid (HP5.out.grown hg6 (by intro e; have := Option.some.inj e; omega))
    have HG6 := Lib.hid (grownBy_trans HG5.out hg6 (fun _ e => .inl e))
    have hq6 := Nat.le_trans hq5 hg6.size
    clear he6 hg6 HE5 HP5 HG5 C4
    go_wp2_with fail
    refine (C5.out _ HE6.out).mono ?_
    rintro e w7 ⟨rfl, he7, hg7⟩
    have HE7 := Lib.hid he7
    have HP7 := Lib.hid (HP6.out.grown hg7 (by intro e; have := Option.some.inj e; omega))
    have HG7 := Lib.hid (grownBy_trans HG6.out hg7 (fun _ e => .inl e))
    have hq7 := Nat.le_trans hq6 hg7.size
    clear he7 hg7 HE6 HP6 HG6 C5
    have HX7 := Lib.hid (nodeC_one ⟨u, (N2 : Int), K3, K4, K5, []⟩ none 0)
    go_wp2_with (first
      | (refine wpList_build_at rfl 50 [(0, .tmp 19), (1, .tmp 21), (2, .tmp 23), (3, .tmp 25), (4, .tmp 27)] rfl _ _ rfl HBu.out ?_)
      | (refine wpList_store_blk rfl 50 _ _ rfl w7.heap.size rfl (nodeC ⟨u, (N2 : Int), K3, K4, K5, []⟩ none 0) rfl _ _ (Blk.new w7 50 zTN) (by rw [zTN_len]; simp [nodeC, K3L.out, K4L.out, K5L.out]) (by simp only [nodeC, List.length_append, List.length_cons, List.length_map, K3L.out, K4L.out, K5L.out]; exact infoNode) HX7.out ?_; intro w8 hp8 hg8; have HN8 := Lib.hid hp8; have HG8' := Lib.hid hg8; clear hp8 hg8))
    have hb8 : Below w7.heap.size w7 w8 := below_box HG8'.out
    have hgl7 : g < w7.heap.size := HE7.out.lt
    have HE8 := Lib.hid (show EyeS w8 B g s5 from HE7.out.below hb8 (Nat.le_refl _))
    have HP8 := Lib.hid (HP7.out.below hb8 (by omega))
    have HG8 := Lib.hid (grown_below HG7.out (hb8.mono (by omega)))
    have hq8 : w7.heap.size + 1 ≤ w8.heap.size := by have := HG8'.out.size; simpa using this
    clear hb8 HG8' HE7 HP7 HG7
    refine (C6.out _ HE8.out).mono ?_
    rintro e w9 ⟨v9, rfl, ho9, he9, hg9⟩
    obtain ⟨A9, c9, rfl, -, -, -, -⟩ := ho9.shape' (n := L.length) rfl
    have HE9 := Lib.hid he9
    have HO9 := Lib.hid ho9
    have hn9 := HN8.out.grown hg9 (by intro e; have := Option.some.inj e; omega)
    have HP9 := Lib.hid (HP8.out.grown hg9 (by intro e; have := Option.some.inj e; omega))
    have HG9 := Lib.hid (grownBy_trans HG8.out hg9 (fun _ e => .inl e))
    have hq9 : w8.heap.size ≤ w9.heap.size := hg9.size
    have c98 := nodeC_um hn9 ⟨K3L.out, K4L.out, K5L.out, HWf.out, fun _ h => by cases h⟩
    have f98 := hn9.frozen 98
    have HNs := Lib.hid ((hn9.set_ 98 (.slice A9 L.length c9)).cast (show _ = nodeC ⟨u, (N2 : Int), K3, K4, K5, L⟩ A9 c9 from nodeC_set ⟨K3L.out, K4L.out, K5L.out, HWf.out, fun _ h => by cases h⟩ A9 c9))
    have HPs := Lib.hid (HP9.out.far (p := ⟨w7.heap.size, 98, none⟩) (by show w.heap.size ≠ w7.heap.size; omega) (.slice A9 L.length c9))
    clear hn9 HP8 HG8 HN8 HE8 HP9 he9 hg9 ho9 C6
    go_wp2_with (first
      | (refine wpList_load_mid rfl 50 (.tmp 4) rfl w7.heap.size 0 rfl (nodeC ⟨u, (N2 : Int), K3, K4, K5, L⟩ A9 c9) _ (Blk.whole HNs.out) Try.underlying50 rfl (by simp only [nodeC, List.length_append, List.length_cons, List.length_map, K3L.out, K4L.out, K5L.out]; exact infoNode) ?_)
      | (refine wpList_store_blk rfl 50 _ _ rfl w.heap.size rfl (nodeC ⟨u, (N2 : Int), K3, K4, K5, L⟩ A9 c9) rfl _ _ HPs.out (by rw [zTN_len]; simp [nodeC, K3L.out, K4L.out, K5L.out]) (by simp only [nodeC, List.length_append, List.length_cons, List.length_map, K3L.out, K4L.out, K5L.out]; exact infoNode) (nodeC_one _ _ _) ?_; intro w10 hp10 hg10; have HP10 := Lib.hid hp10; have HG10 := Lib.hid hg10; clear hp10 hg10))
    refine bodyPost_ret (results_blk (g := w.heap.size) rfl _ _ _ _ _ rfl HP10.out Try.underlying50 rfl (by simp only [nodeC, List.length_append, List.length_cons, List.length_map, K3L.out, K4L.out, K5L.out]; exact infoNode)) rfl ?_
    have hb9 : Below w7.heap.size w9 (w9.setCell ⟨w7.heap.size, 98, none⟩ (.slice A9 L.length c9)) := (Below.refl _ _).setCell (p := ⟨w7.heap.size, 98, none⟩) (Nat.le_refl _) _
    refine ⟨A9, c9, rfl, ?_, eye_grown (eye_low HE9.out hb9 hgl7) HG10.out (by omega) hgl, grownBy_trans (grown_below HG9.out (hb9.mono (by omega))) HG10.out (fun _ e => .inr (by cases e; exact Nat.le_refl _))⟩
    refine ((HO9.out.kept (grownBy_set w9 w7.heap.size 98 _) (.inr (fun e => by have := HO9.out.lt _ e; omega))).kept HG10.out (.inr (fun e => by have := HO9.out.lt _ e; omega))).less (by omega)
end Go.Proofs.Ytloglpamnalmeaa
