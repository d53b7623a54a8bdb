/- CONTRACT: wire.readProposal. -/
import Derived.Test.YtloglpamnalmeaaPropLaw
import Derived.Test.YtloglpamnalmeaaManyNode
namespace Go.Proofs.Ytloglpamnalmeaa
open Go.RowKit
set_option linter.unusedVariables false
set_option linter.unusedSimpArgs false

theorem blk_setCells {g : Nat} {T : TypeId} : ∀ (ys pre old post : List Value) (w : World), old.length = ys.length → Blk w g T (pre ++ (old ++ post)) → Blk (w.setCells g pre.length ys) g T (pre ++ (ys ++ post)) ∧ w.grownBy (w.setCells g pre.length ys) (some g)
  | [], pre, [], post, w, _, h => ⟨h, World.grownBy.refl _ _⟩
  | y :: ys, pre, x :: old, post, w, hl, h => by
    have h1 := h.set_ pre.length y
    have e : (pre ++ (x :: old ++ post)).set pre.length y = (pre ++ [y]) ++ (old ++ post) := by
      rw [List.set_append]; simp
    have ih := blk_setCells ys (pre ++ [y]) old post _ (by simpa using hl) (h1.cast e)
    rw [List.length_append, List.length_singleton] at ih
    rw [World.setCells]
    exact ⟨ih.1.cast (by simp), grownBy_trans (grownBy_set w g pre.length y) ih.2 (fun _ e => .inl e)⟩
/-- a piece of a block is stored over -/
theorem wpList_store_piece {P : Program} {ops : Array Oper} {rest : List Oper} {op : Oper} {a : Act} {w : World} {Q : Exit → Act → World → Prop} (hgd : op.guard = none) (ty : TypeId) (x y : Operand) (ho : op.op = .store ty x y)
    (g o : Nat) (hx : a.eval x = .pointer (some ⟨g, o, none⟩)) (ys : List Value) (hy : a.eval y = .agg ys.toArray) (T : TypeId) (cs pre old post : List Value) (hA : Blk w g T cs) (e : cs = pre ++ (old ++ post)) (hpo : pre.length = o) (hl : old.length = ys.length)
    (hi : (P.info? ty).map (·.size) = some ys.length) (h1 : ∀ u ∈ ys, u.oneCell' = true)
    (h : ∀ w', Blk w' g T (pre ++ (ys ++ post)) → w.grownBy w' (some g) → wpList P ops Q rest (a.put op.dst undef) w') : wpList P ops Q (op :: rest) a w := by
  subst e
  subst hpo
  obtain ⟨h2, h3⟩ := blk_setCells ys pre old post w hl hA
  refine wpList_store_mid hgd ty x y ho g pre.length ys.toArray hx hy ?_ ?_ ?_ ?_
  · exact hA.arr.there (by simp [hl])
  · rw [hi]; simp
  · exact all_oneCell_toArray h1
  · simp only
    exact h _ h2 h3
theorem Blk.put_one {w : World} {g : Nat} {T : TypeId} {cs : List Value} (h : Blk w g T cs) {pre post : List Value} {u : Value} {o : Nat} (e : cs = pre ++ (u :: post)) (ho : pre.length = o) (v : Value) : Blk (w.setCell ⟨g, o, none⟩ v) g T (pre ++ (v :: post)) := by
  subst e
  subst ho
  refine (h.set_ pre.length v).cast ?_
  rw [List.set_append]; simp
def zSig : List (BitVec 8) := List.replicate 64 0#8
theorem infoKeyS : (Try.prog.info? 47).map (·.size) = some 32 := by kernel_rfl
theorem infoWideS : (Try.prog.info? 62).map (·.size) = some 64 := by kernel_rfl
set_option maxRecDepth 100000 in
theorem built_prop (G C : List (BitVec 8)) (ep frm kd : Int) (hG : G.length = 32) (hC : C.length = 32) :
    Try.prog.built 71 [(0, .agg (G.map b8).toArray), (1, .int .i64 ep), (2, .int .i64 frm), (3, .agg (C.map b8).toArray), (4, .int .i64 kd)] = some (propC ⟨G, ep, frm, C, kd, zNode, zero32, 0, zSig⟩ none 0).toArray := by
  obtain ⟨g0, g1, g2, g3, g4, g5, g6, g7, g8, g9, g10, g11, g12, g13, g14, g15, g16, g17, g18, g19, g20, g21, g22, g23, g24, g25, g26, g27, g28, g29, g30, g31, rfl⟩ := list32 hG
  obtain ⟨y0, y1, y2, y3, y4, y5, y6, y7, y8, y9, y10, y11, y12, y13, y14, y15, y16, y17, y18, y19, y20, y21, y22, y23, y24, y25, y26, y27, y28, y29, y30, y31, rfl⟩ := list32 hC
  kernel_rfl
def zPropL : List Value := propC zProp none 0
theorem zProp_ok : zProp.Ok := ⟨zero32_len, zero32_len, zero32_len, by simp [zProp], zNode_ok, by decide, by decide, by decide, by decide⟩
theorem zPropL_len : zPropL.length = 263 := propC_len zProp_ok none 0
theorem propK {w : World} {g : Nat} {T : TypeId} {x : PropD} {A : Option Addr} {c : Nat} (h : Blk w g T (propC x A c)) (h1 : x.grp.length = 32) (h2 : x.base.length = 32) : w.cell? ⟨g, 66, none⟩ = some (.int .i64 x.kind) := h.one (pre := x.grp.map b8 ++ (.int .i64 x.ep :: .int .i64 x.frm :: x.base.map b8)) (post := nodeC x.leaf A c ++ (x.start.map b8 ++ (.int .i64 x.at_ :: x.sig.map b8))) (by simp [propC]) (by simp [h1, h2])
theorem propA {w : World} {g : Nat} {T : TypeId} {x : PropD} {A : Option Addr} {c : Nat} (h : Blk w g T (propC x A c)) (h1 : x.grp.length = 32) (h2 : x.base.length = 32) (h3 : x.leaf.Ok) (h4 : x.start.length = 32) : w.cell? ⟨g, 198, none⟩ = some (.int .i64 x.at_) := h.one (pre := x.grp.map b8 ++ (.int .i64 x.ep :: .int .i64 x.frm :: (x.base.map b8 ++ (.int .i64 x.kind :: (nodeC x.leaf A c ++ x.start.map b8))))) (post := x.sig.map b8) (by simp [propC]) (by simp [h1, h2, h4, nodeC_len h3])
theorem readNodeV {w : World} {B g : Nat} {s s' : St} {x : NodeD} (hE : EyeS w B g s) (hy : s.1.length ≤ 10000000) (hN : pNode s = (x, s')) :
    Calls Try.prog 72 #[.pointer (some ⟨g, 0, none⟩)] w fun e w' => ∃ A c, e = .returned (.agg (nodeC x A c).toArray) ∧ Own cI w' w.heap.size 3 (.slice A x.um.length c) x.um ∧ EyeS w' B g s' ∧ w.grownBy w' (some g) := by
  have h := readNode_any hE hy
  rw [hN] at h
  exact h
theorem b8s_one (xs : List (BitVec 8)) : ∀ u ∈ xs.map b8, u.oneCell' = true := by intro u hu; obtain ⟨y, -, rfl⟩ := List.mem_map.1 hu; rfl

set_option maxRecDepth 100000 in
set_option maxHeartbeats 4000000 in
theorem readProp_any {w : World} {B g : Nat} {s : St} (hE : EyeS w B g s) (hy : s.1.length ≤ 10000000) :
    Calls Try.prog 81 #[.pointer (some ⟨g, 0, none⟩)] w fun e w' => ∃ A c, e = .returned (.agg (propC (pProp s).1 A c).toArray) ∧ Own cI w' w.heap.size 3 (.slice A (pProp s).1.leaf.um.length c) (pProp s).1.leaf.um ∧ EyeS w' B g (pProp s).2 ∧ w.grownBy w' (some g) := by
  have l0 := hy
  have l1 : (prS1 s).1.length ≤ 10000000 := by have := pTk_le 32 s; unfold prS1; omega
  have l2 : (prS2 s).1.length ≤ 10000000 := by have := pNum_le 4 (prS1 s); unfold prS2; omega
  have l3 : (prS3 s).1.length ≤ 10000000 := by have := pNum_le 1 (prS2 s); unfold prS3; omega
  have l4 : (prS4 s).1.length ≤ 10000000 := by have := pTk_le 32 (prS3 s); unfold prS4; omega
  have l5 : (prS5 s).1.length ≤ 10000000 := by have := pNum_le 1 (prS4 s); unfold prS5; omega
  have l6 : (prS6 s).1.length ≤ 10000000 := by have : (prLeaf (prK s) (prS5 s)).2.1.length ≤ (prS5 s).1.length := (by unfold prLeaf; split; exact pNode_le _; exact Nat.le_refl _); unfold prS6; omega
  have l7 : (prS7 s).1.length ≤ 10000000 := by have : (prStart (prK s) (prS6 s)).2.1.length ≤ (prS6 s).1.length := (by unfold prStart; split; exact pTk_le _ _; exact Nat.le_refl _); unfold prS7; omega
  have l8 : (prS8 s).1.length ≤ 10000000 := by have : (prAt (prK s) (prS7 s)).2.1.length ≤ (prS7 s).1.length := (by unfold prAt; split; exact pNum_le _ _; exact Nat.le_refl _); unfold prS8; omega
  have hok := prV_ok s
  obtain ⟨K, hK⟩ : ∃ K, K = prK s := ⟨_, rfl⟩
  obtain ⟨V, hV⟩ : ∃ V, V = prV s := ⟨_, rfl⟩
  obtain ⟨s1, hs1⟩ : ∃ t, t = prS1 s := ⟨_, rfl⟩
  obtain ⟨s2, hs2⟩ : ∃ t, t = prS2 s := ⟨_, rfl⟩
  obtain ⟨s3, hs3⟩ : ∃ t, t = prS3 s := ⟨_, rfl⟩
  obtain ⟨s4, hs4⟩ : ∃ t, t = prS4 s := ⟨_, rfl⟩
  obtain ⟨s5, hs5⟩ : ∃ t, t = prS5 s := ⟨_, rfl⟩
  obtain ⟨s6, hs6⟩ : ∃ t, t = prS6 s := ⟨_, rfl⟩
  obtain ⟨s7, hs7⟩ : ∃ t, t = prS7 s := ⟨_, rfl⟩
  obtain ⟨s8, hs8⟩ : ∃ t, t = prS8 s := ⟨_, rfl⟩
  obtain ⟨s9, hs9⟩ : ∃ t, t = prS9 s := ⟨_, rfl⟩
  rw [pProp, ← hV, ← hs9]
  rw [← hV] at hok
  rw [← hs1] at l1
  rw [← hs2] at l2
  rw [← hs3] at l3
  rw [← hs4] at l4
  rw [← hs5] at l5
  rw [← hs6] at l6
  rw [← hs7] at l7
  rw [← hs8] at l8
  have v1 : (pTk 32 s).1 = V.grp := by rw [hV, prV_grp]
  have v2 : ((pNum 4 s1).1 : Int) = V.ep := by rw [hV, prV_ep, hs1]
  have v3 : ((pNum 1 s2).1 : Int) = V.frm := by rw [hV, prV_frm, hs2]
  have v4 : (pTk 32 s3).1 = V.base := by rw [hV, prV_base, hs3]
  have v5 : ((pNum 1 s4).1 : Int) = V.kind := by rw [hV, prV_kind, hs4, prK]
  have vk : V.kind = (K : Int) := by rw [hV, prV_kind, hK]
  have v6 : prLeaf K s5 = (V.leaf, s6) := by rw [hV, prV_leaf, hs6, prS6, hK, hs5]
  have v7 : prStart K s6 = (V.start, s7) := by rw [hV, prV_start, hs7, prS7, hK, hs6]
  have v8 : prAt K s7 = ((prAt K s7).1, s8) := by rw [hs8, prS8, hK, hs7]
  have v8' : ((prAt K s7).1 : Int) = V.at_ := by rw [hV, prV_at, hK, hs7]
  have v9 : (pTk 64 s8).1 = V.sig := by rw [hV, prV_sig, hs8]
  have u1 : (pTk 32 s).2 = s1 := by rw [hs1, prS1]
  have u2 : (pNum 4 s1).2 = s2 := by rw [hs2, prS2, hs1]
  have u3 : (pNum 1 s2).2 = s3 := by rw [hs3, prS3, hs2]
  have u4 : (pTk 32 s3).2 = s4 := by rw [hs4, prS4, hs3]
  have u5 : (pNum 1 s4).2 = s5 := by rw [hs5, prS5, hs4]
  have u9 : (pTk 64 s8).2 = s9 := by rw [hs9, prS9, hs8]
  have C1 := Lib.hid (fun (W : World) (h : EyeS W B g s) => (show Calls Try.prog 59 #[.pointer (some ⟨g, 0, none⟩)] W fun e w' => e = .returned (.agg (V.grp.map b8).toArray) ∧ EyeS w' B g s1 ∧ W.grownBy w' (some g) by rw [← arrV_mk, ← v1, ← u1]; exact sumS_any h (by omega)))
  have C2 := Lib.hid (fun (W : World) (h : EyeS W B g s1) => (show Calls Try.prog 60 #[.pointer (some ⟨g, 0, none⟩), .int .i64 4] W fun e w' => e = .returned (.int .i64 V.ep) ∧ EyeS w' B g s2 ∧ W.grownBy w' (some g) by rw [← v2, ← u2]; exact numS_any h 4 4 rfl (by omega) (by omega)))
  have C3 := Lib.hid (fun (W : World) (h : EyeS W B g s2) => (show Calls Try.prog 60 #[.pointer (some ⟨g, 0, none⟩), .int .i64 1] W fun e w' => e = .returned (.int .i64 V.frm) ∧ EyeS w' B g s3 ∧ W.grownBy w' (some g) by rw [← v3, ← u3]; exact numS_any h 1 1 rfl (by omega) (by omega)))
  have C4 := Lib.hid (fun (W : World) (h : EyeS W B g s3) => (show Calls Try.prog 59 #[.pointer (some ⟨g, 0, none⟩)] W fun e w' => e = .returned (.agg (V.base.map b8).toArray) ∧ EyeS w' B g s4 ∧ W.grownBy w' (some g) by rw [← arrV_mk, ← v4, ← u4]; exact sumS_any h (by omega)))
  have C5 := Lib.hid (fun (W : World) (h : EyeS W B g s4) => (show Calls Try.prog 60 #[.pointer (some ⟨g, 0, none⟩), .int .i64 1] W fun e w' => e = .returned (.int .i64 V.kind) ∧ EyeS w' B g s5 ∧ W.grownBy w' (some g) by rw [← v5, ← u5]; exact numS_any h 1 1 rfl (by omega) (by omega)))
  have C9 := Lib.hid (fun (W : World) (h : EyeS W B g s8) => (show Calls Try.prog 75 #[.pointer (some ⟨g, 0, none⟩)] W fun e w' => e = .returned (.agg (V.sig.map b8).toArray) ∧ EyeS w' B g s9 ∧ W.grownBy w' (some g) by rw [← arrV_mk, ← v9, ← u9]; exact wideS_any h (by omega)))
  have HOk := Lib.hid hok
  obtain ⟨k, hk⟩ : ∃ k, k = V.kind := ⟨_, rfl⟩
  have HBu := Lib.hid (built_prop V.grp V.base V.ep V.frm k hok.grp hok.base)
  rw [← hk] at C5
  have hkK : k = (K : Int) := by rw [hk, vk]
  have HKk := Lib.hid hk
  have hgl := hE.lt
  have HE0 := Lib.hid (hE.below ((Below.refl w.heap.size w).alloc (Nat.le_refl _) (.cells Try.zeroCells71 71)) (Nat.le_refl _))
  have HP0 := Lib.hid (Blk.new w 71 zPropL)
  have HG0 := Lib.hid (World.grownBy_alloc w (.cells Try.zeroCells71 71) (some g))
  clear hE hV hs1 hs2 hs3 hs4 hs5 hs6 hs7 hs8 hs9 v1 v2 v3 v4 v5 vk v9 u1 u2 u3 u4 u5 u9 hy l0 l1 l2 l3 l4 hK hk
  clear hok
  have V6 := Lib.hid v6
  have V7 := Lib.hid v7
  have V8 := Lib.hid v8
  have V8' := Lib.hid v8'
  have HkK := Lib.hid hkK
  clear v6 v7 v8 v8' hkK
  by_cases hk1 : k = 1
  · subst hk1
    have hK1 : K = 1 := by have := HkK.out; omega
    have hN : pNode s5 = (V.leaf, s6) := by have := V6.out; rw [hK1] at this; unfold prLeaf at this; rwa [if_pos (.inl rfl)] at this
    have hT : pTk 32 s6 = (V.start, s7) := by have := V7.out; rw [hK1] at this; unfold prStart at this; rwa [if_pos rfl] at this
    have h8 : s8 = s7 := by have := V8.out; rw [hK1] at this; unfold prAt at this; rw [if_neg (by omega)] at this; injection this with _ h; exact h.symm
    have ha0 : V.at_ = 0 := by have := V8'.out; rw [hK1] at this; unfold prAt at this; rw [if_neg (by omega)] at this; exact this.symm
    subst h8
    have HN := Lib.hid hN
    have HT := Lib.hid hT
    have HA0 := Lib.hid ha0
    clear hN hT ha0 hK1
    go_enter Try.func81, Try.ntmps81
    go_wp2_with fail
    generalize hW1 : World.alloc w _ = W1
    have HE1 := Lib.hid (show EyeS W1 B g s by rw [← hW1]; exact HE0.out)
    have HP1 := Lib.hid (show Blk W1 w.heap.size 71 zPropL by rw [← hW1]; exact HP0.out)
    have HG1 := Lib.hid (show w.grownBy W1 (some g) by rw [← hW1]; exact HG0.out)
    have hq1 : w.heap.size + 1 ≤ W1.heap.size := by rw [← hW1]; simp
    clear hW1 HE0 HP0 HG0
    refine (C1.out _ HE1.out).mono ?_
    rintro e w2 ⟨rfl, he2, hg2⟩
    have HE2 := Lib.hid he2
    have HP2 := Lib.hid (HP1.out.grown hg2 (by intro e; have := Option.some.inj e; omega))
    have HG2 := Lib.hid (grownBy_trans HG1.out hg2 (fun _ e => .inl e))
    have hq2 := Nat.le_trans hq1 hg2.size
    clear HE1 HP1 HG1 C1 he2 hg2
    go_wp2_with fail
    refine (C2.out _ HE2.out).mono ?_
    rintro e w3 ⟨rfl, he3, hg3⟩
    have HE3 := Lib.hid he3
    have HP3 := Lib.hid (HP2.out.grown hg3 (by intro e; have := Option.some.inj e; omega))
    have HG3 := Lib.hid (grownBy_trans HG2.out hg3 (fun _ e => .inl e))
    have hq3 := Nat.le_trans hq2 hg3.size
    clear HE2 HP2 HG2 C2 he3 hg3
    go_wp2_with fail
    refine (C3.out _ HE3.out).mono ?_
    rintro e w4 ⟨rfl, he4, hg4⟩
    have HE4 := Lib.hid he4
    have HP4 := Lib.hid (HP3.out.grown hg4 (by intro e; have := Option.some.inj e; omega))
    have HG4 := Lib.hid (grownBy_trans HG3.out hg4 (fun _ e => .inl e))
    have hq4 := Nat.le_trans hq3 hg4.size
    clear HE3 HP3 HG3 C3 he4 hg4
    go_wp2_with fail
    refine (C4.out _ HE4.out).mono ?_
    rintro e w5 ⟨rfl, he5, hg5⟩
    have HE5 := Lib.hid he5
    have HP5 := Lib.hid (HP4.out.grown hg5 (by intro e; have := Option.some.inj e; omega))
    have HG5 := Lib.hid (grownBy_trans HG4.out hg5 (fun _ e => .inl e))
    have hq5 := Nat.le_trans hq4 hg5.size
    clear HE4 HP4 HG4 C4 he5 hg5
    go_wp2_with fail
    refine (C5.out _ HE5.out).mono ?_
    rintro e w6 ⟨rfl, he6, hg6⟩
    have HE6 := Lib.hid he6
    have HP6 := Lib.hid (HP5.out.grown hg6 (by intro e; have := Option.some.inj e; omega))
    have HG6 := Lib.hid (grownBy_trans HG5.out hg6 (fun _ e => .inl e))
    have hq6 := Nat.le_trans hq5 hg6.size
    clear HE5 HP5 HG5 C5 he6 hg6
    have HXl := Lib.hid (show (propC ⟨V.grp, V.ep, V.frm, V.base, 1, zNode, zero32, 0, zSig⟩ none 0).length = 263 by simp [propC, HOk.out.grp, HOk.out.base, nodeC_len zNode_ok, zero32_len, zSig])
    go_wp2_with (first
      | (refine wpList_build_at rfl 71 [(0, .tmp 5), (1, .tmp 7), (2, .tmp 9), (3, .tmp 11), (4, .tmp 13)] rfl _ _ rfl HBu.out ?_)
      | (refine wpList_store_blk rfl 71 _ _ rfl w6.heap.size rfl (propC ⟨V.grp, V.ep, V.frm, V.base, 1, zNode, zero32, 0, zSig⟩ none 0) rfl _ _ (Blk.new w6 71 zPropL) (by rw [zPropL_len, HXl.out]) (by rw [HXl.out]; exact infoProp) (propC_one _ _ _) ?_; intro w7 hp7 hg7; have HX7 := Lib.hid hp7; have HG7' := Lib.hid hg7; have c66 := propK hp7 HOk.out.grp HOk.out.base; clear hp7 hg7))
    have hb7 : Below w6.heap.size w6 w7 := below_box HG7'.out
    have hgk : g < w6.heap.size := HE6.out.lt
    have HE7 := Lib.hid (show EyeS w7 B g s5 from HE6.out.below hb7 (Nat.le_refl _))
    have HP7 := Lib.hid (HP6.out.below hb7 (by omega))
    have HG7 := Lib.hid (grown_below HG6.out (hb7.mono (by omega)))
    have hq7 : w6.heap.size + 1 ≤ w7.heap.size := by have := HG7'.out.size; simpa using this
    clear hb7 HG7' HE6 HP6 HG6 c66
    have hN := HN.out
    refine (readNodeV HE7.out l5 hN).mono ?_
    rintro e w8 ⟨A8, c8, rfl, ho8, he8, hg8⟩
    have HE8 := Lib.hid he8
    have HX8 := Lib.hid (HX7.out.grown hg8 (by intro e; have := Option.some.inj e; omega))
    have HP8 := Lib.hid (HP7.out.grown hg8 (by intro e; have := Option.some.inj e; omega))
    have HG8 := Lib.hid (grownBy_trans HG7.out hg8 (fun _ e => .inl e))
    have HO8 := Lib.hid ho8
    have hq8 : w7.heap.size ≤ w8.heap.size := hg8.size
    clear ho8 he8 hg8 HE7 HX7 HP7 HG7
    clear hN
    go_wp2_with fail
    have C7 := keyS_any HE8.out (by omega)
    rw [HT.out, arrV_mk] at C7
    refine C7.mono ?_
    clear C7
    rintro e w9 ⟨rfl, he9, hg9⟩
    have HE9 := Lib.hid he9
    have HX9 := Lib.hid (HX8.out.grown hg9 (by intro e; have := Option.some.inj e; omega))
    have HP9 := Lib.hid (HP8.out.grown hg9 (by intro e; have := Option.some.inj e; omega))
    have HG9 := Lib.hid (grownBy_trans HG8.out hg9 (fun _ e => .inl e))
    have HO9 := Lib.hid (HO8.out.kept hg9 (.inr (fun e => by have := HO8.out.lt _ e; omega)))
    have hq9 : w8.heap.size ≤ w9.heap.size := hg9.size
    clear he9 hg9 HE8 HX8 HP8 HG8 HO8
    go_wp2_with (first
      | (refine wpList_store_piece rfl 50 _ _ rfl w6.heap.size 67 rfl (nodeC V.leaf A8 c8) rfl 71 _ (V.grp.map b8 ++ (.int .i64 V.ep :: .int .i64 V.frm :: (V.base.map b8 ++ [.int .i64 1]))) (nodeC zNode none 0) (zero32.map b8 ++ (.int .i64 0 :: zSig.map b8)) HX9.out (by simp [propC]) (by simp [HOk.out.grp, HOk.out.base]) (by rw [nodeC_len HOk.out.leaf, nodeC_len zNode_ok]) (by rw [nodeC_len HOk.out.leaf]; exact infoNode) (nodeC_one _ _ _) ?_; intro w10 hp10 hg10; have HX10 := Lib.hid hp10; have HG10 := Lib.hid hg10; clear hp10 hg10)
      | (refine wpList_store_piece rfl 47 _ _ rfl w6.heap.size 166 rfl (V.start.map b8) rfl 71 _ (V.grp.map b8 ++ (.int .i64 V.ep :: .int .i64 V.frm :: (V.base.map b8 ++ (.int .i64 1 :: nodeC V.leaf A8 c8)))) (zero32.map b8) (.int .i64 0 :: zSig.map b8) HX10.out (by simp) (by simp [HOk.out.grp, HOk.out.base, nodeC_len HOk.out.leaf]) (by rw [List.length_map, List.length_map, HOk.out.start, zero32_len]) (by rw [List.length_map, HOk.out.start]; exact infoKeyS) (b8s_one _) ?_; intro wn hpn hgn; have HXn' := Lib.hid hpn; have HG11 := Lib.hid hgn; clear hpn hgn))
    have hn1 := grownBy_trans HG10.out HG11.out (fun _ e => .inl e)
    have HXn := Lib.hid (HXn'.out.cast (show _ = propC ⟨V.grp, V.ep, V.frm, V.base, V.kind, V.leaf, V.start, V.at_, zSig⟩ A8 c8 by rw [← HKk.out, HA0.out]; simp [propC]))
    have HEn := Lib.hid (show EyeS wn B g s8 from eye_grown HE9.out hn1 (by omega) (by omega))
    have HPn := Lib.hid (HP9.out.grown hn1 (by intro e; have := Option.some.inj e; omega))
    have HGn := Lib.hid (grownBy_trans HG9.out hn1 (fun _ e => .inr (by cases e; omega)))
    have HOn := Lib.hid (HO9.out.kept hn1 (.inr (fun e => by have := HO9.out.lt _ e; omega)))
    have hqn : w7.heap.size ≤ wn.heap.size := by have := hn1.size; omega
    clear hn1 HG10 HG11 HXn' HX10 HE9 HX9 HP9 HG9 HO9
    refine (C9.out _ HEn.out).mono ?_
    rintro e wa ⟨rfl, hea, hga⟩
    have HEa := Lib.hid hea
    have HPa := Lib.hid (HPn.out.grown hga (by intro e; have := Option.some.inj e; omega))
    have HXa := Lib.hid (HXn.out.grown hga (by intro e; have := Option.some.inj e; omega))
    have HGa := Lib.hid (grownBy_trans HGn.out hga (fun _ e => .inl e))
    have HOa := Lib.hid (HOn.out.kept hga (.inr (fun e => by have := HOn.out.lt _ e; omega)))
    have hqa := Nat.le_trans hqn hga.size
    have HVl := Lib.hid (show (propC V A8 c8).length = 263 from propC_len HOk.out _ _)
    clear hea hga HEn HPn HXn HGn HOn C9
    go_wp2_with (first
      | (refine wpList_store_piece rfl 62 _ _ rfl w6.heap.size 199 rfl (V.sig.map b8) rfl 71 _ (V.grp.map b8 ++ (.int .i64 V.ep :: .int .i64 V.frm :: (V.base.map b8 ++ (.int .i64 V.kind :: (nodeC V.leaf A8 c8 ++ (V.start.map b8 ++ [.int .i64 V.at_])))))) (zSig.map b8) [] HXa.out (by simp [propC]) (by simp [HOk.out.grp, HOk.out.base, HOk.out.start, nodeC_len HOk.out.leaf]) (by rw [List.length_map, List.length_map, HOk.out.sig]; rfl) (by rw [List.length_map, HOk.out.sig]; exact infoWideS) (b8s_one _) ?_; intro wb hpb hgb; have HXb := Lib.hid (hpb.cast (show _ = propC V A8 c8 by simp [propC])); have HGb := Lib.hid hgb; have HPb := Lib.hid (HPa.out.grown hgb (by intro e; have := Option.some.inj e; omega)); clear hpb hgb)
      | (refine wpList_load_mid rfl 71 (.tmp 3) rfl w6.heap.size 0 rfl (propC V A8 c8) _ (Blk.whole HXb.out) Try.underlying71 rfl (by rw [HVl.out]; exact infoProp) ?_)
      | (refine wpList_store_blk rfl 71 _ _ rfl w.heap.size rfl (propC V A8 c8) rfl _ _ HPb.out (by rw [zPropL_len, HVl.out]) (by rw [HVl.out]; exact infoProp) (propC_one _ _ _) ?_; intro wc hpc hgc; have HPc := Lib.hid hpc; have HGc := Lib.hid hgc; clear hpc hgc))
    refine bodyPost_ret (results_blk (g := w.heap.size) rfl _ _ _ _ _ rfl HPc.out Try.underlying71 rfl (by rw [HVl.out]; exact infoProp)) rfl ?_
    have hbb : w.grownBy wb (some g) := grownBy_trans HGa.out HGb.out (fun _ e => .inr (by cases e; omega))
    refine ⟨A8, c8, rfl, ?_, eye_grown (eye_grown HEa.out HGb.out (by omega) (by omega)) HGc.out (by omega) hgl, grownBy_trans hbb HGc.out (fun _ e => .inr (by cases e; exact Nat.le_refl _))⟩
    exact ((HOa.out.kept HGb.out (.inr (fun e => by have := HOa.out.lt _ e; omega))).kept HGc.out (.inr (fun e => by have := HOa.out.lt _ e; omega))).less (by omega)
  · by_cases hk2 : k = 2
    · subst hk2
      have hK1 : K = 2 := by have := HkK.out; omega
      have hN : pNode s5 = (V.leaf, s6) := by have := V6.out; rw [hK1] at this; unfold prLeaf at this; rwa [if_pos (.inr rfl)] at this
      have hT : (zero32, s6) = (V.start, s7) := by have := V7.out; rw [hK1] at this; unfold prStart at this; rwa [if_neg (by omega)] at this
      have h8 : s8 = s7 := by have := V8.out; rw [hK1] at this; unfold prAt at this; rw [if_neg (by omega)] at this; injection this with _ h; exact h.symm
      have ha0 : V.at_ = 0 := by have := V8'.out; rw [hK1] at this; unfold prAt at this; rw [if_neg (by omega)] at this; exact this.symm
      obtain ⟨hst, h7⟩ := Prod.mk.inj hT
      subst h8 h7
      have HN := Lib.hid hN
      have HST := Lib.hid hst
      have HA0 := Lib.hid ha0
      clear hN hst ha0 hK1 hk1 hT
      go_enter Try.func81, Try.ntmps81
      go_wp2_with fail
      generalize hW1 : World.alloc w _ = W1
      have HE1 := Lib.hid (show EyeS W1 B g s by rw [← hW1]; exact HE0.out)
      have HP1 := Lib.hid (show Blk W1 w.heap.size 71 zPropL by rw [← hW1]; exact HP0.out)
      have HG1 := Lib.hid (show w.grownBy W1 (some g) by rw [← hW1]; exact HG0.out)
      have hq1 : w.heap.size + 1 ≤ W1.heap.size := by rw [← hW1]; simp
      clear hW1 HE0 HP0 HG0
      refine (C1.out _ HE1.out).mono ?_
      rintro e w2 ⟨rfl, he2, hg2⟩
      have HE2 := Lib.hid he2
      have HP2 := Lib.hid (HP1.out.grown hg2 (by intro e; have := Option.some.inj e; omega))
      have HG2 := Lib.hid (grownBy_trans HG1.out hg2 (fun _ e => .inl e))
      have hq2 := Nat.le_trans hq1 hg2.size
      clear HE1 HP1 HG1 C1 he2 hg2
      go_wp2_with fail
      refine (C2.out _ HE2.out).mono ?_
      rintro e w3 ⟨rfl, he3, hg3⟩
      have HE3 := Lib.hid he3
      have HP3 := Lib.hid (HP2.out.grown hg3 (by intro e; have := Option.some.inj e; omega))
      have HG3 := Lib.hid (grownBy_trans HG2.out hg3 (fun _ e => .inl e))
      have hq3 := Nat.le_trans hq2 hg3.size
      clear HE2 HP2 HG2 C2 he3 hg3
      go_wp2_with fail
      refine (C3.out _ HE3.out).mono ?_
      rintro e w4 ⟨rfl, he4, hg4⟩
      have HE4 := Lib.hid he4
      have HP4 := Lib.hid (HP3.out.grown hg4 (by intro e; have := Option.some.inj e; omega))
      have HG4 := Lib.hid (grownBy_trans HG3.out hg4 (fun _ e => .inl e))
      have hq4 := Nat.le_trans hq3 hg4.size
      clear HE3 HP3 HG3 C3 he4 hg4
      go_wp2_with fail
      refine (C4.out _ HE4.out).mono ?_
      rintro e w5 ⟨rfl, he5, hg5⟩
      have HE5 := Lib.hid he5
      have HP5 := Lib.hid (HP4.out.grown hg5 (by intro e; have := Option.some.inj e; omega))
      have HG5 := Lib.hid (grownBy_trans HG4.out hg5 (fun _ e => .inl e))
      have hq5 := Nat.le_trans hq4 hg5.size
      clear HE4 HP4 HG4 C4 he5 hg5
      go_wp2_with fail
      refine (C5.out _ HE5.out).mono ?_
      rintro e w6 ⟨rfl, he6, hg6⟩
      have HE6 := Lib.hid he6
      have HP6 := Lib.hid (HP5.out.grown hg6 (by intro e; have := Option.some.inj e; omega))
      have HG6 := Lib.hid (grownBy_trans HG5.out hg6 (fun _ e => .inl e))
      have hq6 := Nat.le_trans hq5 hg6.size
      clear HE5 HP5 HG5 C5 he6 hg6
      have HXl := Lib.hid (show (propC ⟨V.grp, V.ep, V.frm, V.base, 2, zNode, zero32, 0, zSig⟩ none 0).length = 263 by simp [propC, HOk.out.grp, HOk.out.base, nodeC_len zNode_ok, zero32_len, zSig])
      go_wp2_with (first
        | (refine wpList_build_at rfl 71 [(0, .tmp 5), (1, .tmp 7), (2, .tmp 9), (3, .tmp 11), (4, .tmp 13)] rfl _ _ rfl HBu.out ?_)
        | (refine wpList_store_blk rfl 71 _ _ rfl w6.heap.size rfl (propC ⟨V.grp, V.ep, V.frm, V.base, 2, zNode, zero32, 0, zSig⟩ none 0) rfl _ _ (Blk.new w6 71 zPropL) (by rw [zPropL_len, HXl.out]) (by rw [HXl.out]; exact infoProp) (propC_one _ _ _) ?_; intro w7 hp7 hg7; have HX7 := Lib.hid hp7; have HG7' := Lib.hid hg7; have c66 := propK hp7 HOk.out.grp HOk.out.base; clear hp7 hg7))
      have hb7 : Below w6.heap.size w6 w7 := below_box HG7'.out
      have hgk : g < w6.heap.size := HE6.out.lt
      have HE7 := Lib.hid (show EyeS w7 B g s5 from HE6.out.below hb7 (Nat.le_refl _))
      have HP7 := Lib.hid (HP6.out.below hb7 (by omega))
      have HG7 := Lib.hid (grown_below HG6.out (hb7.mono (by omega)))
      have hq7 : w6.heap.size + 1 ≤ w7.heap.size := by have := HG7'.out.size; simpa using this
      clear hb7 HG7' HE6 HP6 HG6 c66
      have hN := HN.out
      refine (readNodeV HE7.out l5 hN).mono ?_
      rintro e w8 ⟨A8, c8, rfl, ho8, he8, hg8⟩
      have HE8 := Lib.hid he8
      have HX8 := Lib.hid (HX7.out.grown hg8 (by intro e; have := Option.some.inj e; omega))
      have HP8 := Lib.hid (HP7.out.grown hg8 (by intro e; have := Option.some.inj e; omega))
      have HG8 := Lib.hid (grownBy_trans HG7.out hg8 (fun _ e => .inl e))
      have HO8 := Lib.hid ho8
      have hq8 : w7.heap.size ≤ w8.heap.size := hg8.size
      clear ho8 he8 hg8 HE7 HX7 HP7 HG7
      clear hN
      go_wp2_with (refine wpList_store_piece rfl 50 _ _ rfl w6.heap.size 67 rfl (nodeC V.leaf A8 c8) rfl 71 _ (V.grp.map b8 ++ (.int .i64 V.ep :: .int .i64 V.frm :: (V.base.map b8 ++ [.int .i64 2]))) (nodeC zNode none 0) (zero32.map b8 ++ (.int .i64 0 :: zSig.map b8)) HX8.out (by simp [propC]) (by simp [HOk.out.grp, HOk.out.base]) (by rw [nodeC_len HOk.out.leaf, nodeC_len zNode_ok]) (by rw [nodeC_len HOk.out.leaf]; exact infoNode) (nodeC_one _ _ _) ?_; intro wn hpn hgn; have HXn' := Lib.hid hpn; have HG11 := Lib.hid hgn; clear hpn hgn)
      have HXn := Lib.hid (HXn'.out.cast (show _ = propC ⟨V.grp, V.ep, V.frm, V.base, V.kind, V.leaf, V.start, V.at_, zSig⟩ A8 c8 by rw [← HKk.out, HA0.out, ← HST.out]; simp [propC]))
      have HEn := Lib.hid (show EyeS wn B g _ from eye_grown HE8.out HG11.out (by omega) (by omega))
      have HPn := Lib.hid (HP8.out.grown HG11.out (by intro e; have := Option.some.inj e; omega))
      have HGn := Lib.hid (grownBy_trans HG8.out HG11.out (fun _ e => .inr (by cases e; omega)))
      have HOn := Lib.hid (HO8.out.kept HG11.out (.inr (fun e => by have := HO8.out.lt _ e; omega)))
      have hqn : w7.heap.size ≤ wn.heap.size := by have := HG11.out.size; omega
      clear HG11 HXn' HE8 HX8 HP8 HG8 HO8
      refine (C9.out _ HEn.out).mono ?_
      rintro e wa ⟨rfl, hea, hga⟩
      have HEa := Lib.hid hea
      have HPa := Lib.hid (HPn.out.grown hga (by intro e; have := Option.some.inj e; omega))
      have HXa := Lib.hid (HXn.out.grown hga (by intro e; have := Option.some.inj e; omega))
      have HGa := Lib.hid (grownBy_trans HGn.out hga (fun _ e => .inl e))
      have HOa := Lib.hid (HOn.out.kept hga (.inr (fun e => by have := HOn.out.lt _ e; omega)))
      have hqa := Nat.le_trans hqn hga.size
      have HVl := Lib.hid (show (propC V A8 c8).length = 263 from propC_len HOk.out _ _)
      clear hea hga HEn HPn HXn HGn HOn C9
      go_wp2_with (first
        | (refine wpList_store_piece rfl 62 _ _ rfl w6.heap.size 199 rfl (V.sig.map b8) rfl 71 _ (V.grp.map b8 ++ (.int .i64 V.ep :: .int .i64 V.frm :: (V.base.map b8 ++ (.int .i64 V.kind :: (nodeC V.leaf A8 c8 ++ (V.start.map b8 ++ [.int .i64 V.at_])))))) (zSig.map b8) [] HXa.out (by simp [propC]) (by simp [HOk.out.grp, HOk.out.base, HOk.out.start, nodeC_len HOk.out.leaf]) (by rw [List.length_map, List.length_map, HOk.out.sig]; rfl) (by rw [List.length_map, HOk.out.sig]; exact infoWideS) (b8s_one _) ?_; intro wb hpb hgb; have HXb := Lib.hid (hpb.cast (show _ = propC V A8 c8 by simp [propC])); have HGb := Lib.hid hgb; have HPb := Lib.hid (HPa.out.grown hgb (by intro e; have := Option.some.inj e; omega)); clear hpb hgb)
        | (refine wpList_load_mid rfl 71 (.tmp 3) rfl w6.heap.size 0 rfl (propC V A8 c8) _ (Blk.whole HXb.out) Try.underlying71 rfl (by rw [HVl.out]; exact infoProp) ?_)
        | (refine wpList_store_blk rfl 71 _ _ rfl w.heap.size rfl (propC V A8 c8) rfl _ _ HPb.out (by rw [zPropL_len, HVl.out]) (by rw [HVl.out]; exact infoProp) (propC_one _ _ _) ?_; intro wc hpc hgc; have HPc := Lib.hid hpc; have HGc := Lib.hid hgc; clear hpc hgc))
      refine bodyPost_ret (results_blk (g := w.heap.size) rfl _ _ _ _ _ rfl HPc.out Try.underlying71 rfl (by rw [HVl.out]; exact infoProp)) rfl ?_
      have hbb : w.grownBy wb (some g) := grownBy_trans HGa.out HGb.out (fun _ e => .inr (by cases e; omega))
      refine ⟨A8, c8, rfl, ?_, eye_grown (eye_grown HEa.out HGb.out (by omega) (by omega)) HGc.out (by omega) hgl, grownBy_trans hbb HGc.out (fun _ e => .inr (by cases e; exact Nat.le_refl _))⟩
      exact ((HOa.out.kept HGb.out (.inr (fun e => by have := HOa.out.lt _ e; omega))).kept HGc.out (.inr (fun e => by have := HOa.out.lt _ e; omega))).less (by omega)
    · by_cases hk3 : k = 3
      · subst hk3
        have hK1 : K = 3 := by have := HkK.out; omega
        have hN : (zNode, s5) = (V.leaf, s6) := by have := V6.out; rw [hK1] at this; unfold prLeaf at this; rwa [if_neg (by omega)] at this
        have hT : (zero32, s6) = (V.start, s7) := by have := V7.out; rw [hK1] at this; unfold prStart at this; rwa [if_neg (by omega)] at this
        have h8 : (pNum 1 s7).2 = s8 := by have := V8.out; rw [hK1] at this; unfold prAt at this; rw [if_pos rfl] at this; rw [this]
        have ha0 : (((pNum 1 s7).1 : Nat) : Int) = V.at_ := by have := V8'.out; rw [hK1] at this; unfold prAt at this; rwa [if_pos rfl] at this
        obtain ⟨hlf, h6⟩ := Prod.mk.inj hN
        obtain ⟨hst, h7⟩ := Prod.mk.inj hT
        subst h6 h7
        have C7 := Lib.hid (fun (W : World) (h : EyeS W B g s5) => (show Calls Try.prog 60 #[.pointer (some ⟨g, 0, none⟩), .int .i64 1] W fun e w' => e = .returned (.int .i64 V.at_) ∧ EyeS w' B g s8 ∧ W.grownBy w' (some g) by rw [← ha0, ← h8]; exact numS_any h 1 1 rfl (by omega) (by omega)))
        have HLF := Lib.hid hlf
        have HST := Lib.hid hst
        clear hN hst ha0 h8 hK1 hk1 hk2 hT hlf
        go_enter Try.func81, Try.ntmps81
        go_wp2_with fail
        generalize hW1 : World.alloc w _ = W1
        have HE1 := Lib.hid (show EyeS W1 B g s by rw [← hW1]; exact HE0.out)
        have HP1 := Lib.hid (show Blk W1 w.heap.size 71 zPropL by rw [← hW1]; exact HP0.out)
        have HG1 := Lib.hid (show w.grownBy W1 (some g) by rw [← hW1]; exact HG0.out)
        have hq1 : w.heap.size + 1 ≤ W1.heap.size := by rw [← hW1]; simp
        clear hW1 HE0 HP0 HG0
        refine (C1.out _ HE1.out).mono ?_
        rintro e w2 ⟨rfl, he2, hg2⟩
        have HE2 := Lib.hid he2
        have HP2 := Lib.hid (HP1.out.grown hg2 (by intro e; have := Option.some.inj e; omega))
        have HG2 := Lib.hid (grownBy_trans HG1.out hg2 (fun _ e => .inl e))
        have hq2 := Nat.le_trans hq1 hg2.size
        clear HE1 HP1 HG1 C1 he2 hg2
        go_wp2_with fail
        refine (C2.out _ HE2.out).mono ?_
        rintro e w3 ⟨rfl, he3, hg3⟩
        have HE3 := Lib.hid he3
        have HP3 := Lib.hid (HP2.out.grown hg3 (by intro e; have := Option.some.inj e; omega))
        have HG3 := Lib.hid (grownBy_trans HG2.out hg3 (fun _ e => .inl e))
        have hq3 := Nat.le_trans hq2 hg3.size
        clear HE2 HP2 HG2 C2 he3 hg3
        go_wp2_with fail
        refine (C3.out _ HE3.out).mono ?_
        rintro e w4 ⟨rfl, he4, hg4⟩
        have HE4 := Lib.hid he4
        have HP4 := Lib.hid (HP3.out.grown hg4 (by intro e; have := Option.some.inj e; omega))
        have HG4 := Lib.hid (grownBy_trans HG3.out hg4 (fun _ e => .inl e))
        have hq4 := Nat.le_trans hq3 hg4.size
        clear HE3 HP3 HG3 C3 he4 hg4
        go_wp2_with fail
        refine (C4.out _ HE4.out).mono ?_
        rintro e w5 ⟨rfl, he5, hg5⟩
        have HE5 := Lib.hid he5
        have HP5 := Lib.hid (HP4.out.grown hg5 (by intro e; have := Option.some.inj e; omega))
        have HG5 := Lib.hid (grownBy_trans HG4.out hg5 (fun _ e => .inl e))
        have hq5 := Nat.le_trans hq4 hg5.size
        clear HE4 HP4 HG4 C4 he5 hg5
        go_wp2_with fail
        refine (C5.out _ HE5.out).mono ?_
        rintro e w6 ⟨rfl, he6, hg6⟩
        have HE6 := Lib.hid he6
        have HP6 := Lib.hid (HP5.out.grown hg6 (by intro e; have := Option.some.inj e; omega))
        have HG6 := Lib.hid (grownBy_trans HG5.out hg6 (fun _ e => .inl e))
        have hq6 := Nat.le_trans hq5 hg6.size
        clear HE5 HP5 HG5 C5 he6 hg6
        have HXl := Lib.hid (show (propC ⟨V.grp, V.ep, V.frm, V.base, 3, zNode, zero32, 0, zSig⟩ none 0).length = 263 by simp [propC, HOk.out.grp, HOk.out.base, nodeC_len zNode_ok, zero32_len, zSig])
        go_wp2_with (first
          | (refine wpList_build_at rfl 71 [(0, .tmp 5), (1, .tmp 7), (2, .tmp 9), (3, .tmp 11), (4, .tmp 13)] rfl _ _ rfl HBu.out ?_)
          | (refine wpList_store_blk rfl 71 _ _ rfl w6.heap.size rfl (propC ⟨V.grp, V.ep, V.frm, V.base, 3, zNode, zero32, 0, zSig⟩ none 0) rfl _ _ (Blk.new w6 71 zPropL) (by rw [zPropL_len, HXl.out]) (by rw [HXl.out]; exact infoProp) (propC_one _ _ _) ?_; intro w7 hp7 hg7; have HX7 := Lib.hid hp7; have HG7' := Lib.hid hg7; have c66 := propK hp7 HOk.out.grp HOk.out.base; clear hp7 hg7))
        have hb7 : Below w6.heap.size w6 w7 := below_box HG7'.out
        have hgk : g < w6.heap.size := HE6.out.lt
        have HE7 := Lib.hid (show EyeS w7 B g s5 from HE6.out.below hb7 (Nat.le_refl _))
        have HP7 := Lib.hid (HP6.out.below hb7 (by omega))
        have HG7 := Lib.hid (grown_below HG6.out (hb7.mono (by omega)))
        have hq7 : w6.heap.size + 1 ≤ w7.heap.size := by have := HG7'.out.size; simpa using this
        clear hb7 HG7' HE6 HP6 HG6 c66
        refine (C7.out _ HE7.out).mono ?_
        rintro e w8 ⟨rfl, he8, hg8⟩
        have HE8 := Lib.hid he8
        have HX8 := Lib.hid (HX7.out.grown hg8 (by intro e; have := Option.some.inj e; omega))
        have HP8 := Lib.hid (HP7.out.grown hg8 (by intro e; have := Option.some.inj e; omega))
        have HG8 := Lib.hid (grownBy_trans HG7.out hg8 (fun _ e => .inl e))
        have hq8 : w7.heap.size ≤ w8.heap.size := hg8.size
        have c198 := propA HX8.out HOk.out.grp HOk.out.base zNode_ok zero32_len
        have f198 := HX8.out.frozen 198
        clear he8 hg8 HE7 HX7 HP7 HG7 C7
        go_wp2_with fail
        generalize hWn : World.setCell w8 _ _ = wn
        have hgn : w8.grownBy wn (some w6.heap.size) := by rw [← hWn]; exact grownBy_set w8 _ _ _
        have HXn := Lib.hid (show Blk wn w6.heap.size 71 (propC ⟨V.grp, V.ep, V.frm, V.base, V.kind, V.leaf, V.start, V.at_, zSig⟩ none 0) by
          rw [← hWn, ← HKk.out, ← HLF.out, ← HST.out]
          refine (HX8.out.put_one (pre := V.grp.map b8 ++ (.int .i64 V.ep :: .int .i64 V.frm :: (V.base.map b8 ++ (.int .i64 3 :: (nodeC zNode none 0 ++ zero32.map b8))))) (post := zSig.map b8) (u := .int .i64 0) (o := 198) (by simp [propC]) (by simp [HOk.out.grp, HOk.out.base, zero32_len, nodeC_len zNode_ok]) (.int .i64 V.at_)).cast ?_
          simp [propC])
        have HEn := Lib.hid (show EyeS wn B g _ from eye_grown HE8.out hgn (by omega) (by omega))
        have HPn := Lib.hid (HP8.out.grown hgn (by intro e; have := Option.some.inj e; omega))
        have HGn := Lib.hid (grownBy_trans HG8.out hgn (fun _ e => .inr (by cases e; omega)))
        have HOn := Lib.hid (show Own cI wn w7.heap.size 3 (.slice none V.leaf.um.length 0) V.leaf.um by rw [← HLF.out]; exact Own.nil_ _ _ _ _)
        have hqn : w7.heap.size ≤ wn.heap.size := by have := hgn.size; omega
        clear hgn hWn c198 f198 HE8 HX8 HP8 HG8
        refine (C9.out _ HEn.out).mono ?_
        rintro e wa ⟨rfl, hea, hga⟩
        have HEa := Lib.hid hea
        have HPa := Lib.hid (HPn.out.grown hga (by intro e; have := Option.some.inj e; omega))
        have HXa := Lib.hid (HXn.out.grown hga (by intro e; have := Option.some.inj e; omega))
        have HGa := Lib.hid (grownBy_trans HGn.out hga (fun _ e => .inl e))
        have HOa := Lib.hid (HOn.out.kept hga (.inr (fun e => by have := HOn.out.lt _ e; omega)))
        have hqa := Nat.le_trans hqn hga.size
        have HVl := Lib.hid (show (propC V none 0).length = 263 from propC_len HOk.out _ _)
        clear hea hga HEn HPn HXn HGn HOn C9
        go_wp2_with (first
          | (refine wpList_store_piece rfl 62 _ _ rfl w6.heap.size 199 rfl (V.sig.map b8) rfl 71 _ (V.grp.map b8 ++ (.int .i64 V.ep :: .int .i64 V.frm :: (V.base.map b8 ++ (.int .i64 V.kind :: (nodeC V.leaf none 0 ++ (V.start.map b8 ++ [.int .i64 V.at_])))))) (zSig.map b8) [] HXa.out (by simp [propC]) (by simp [HOk.out.grp, HOk.out.base, HOk.out.start, nodeC_len HOk.out.leaf]) (by rw [List.length_map, List.length_map, HOk.out.sig]; rfl) (by rw [List.length_map, HOk.out.sig]; exact infoWideS) (b8s_one _) ?_; intro wb hpb hgb; have HXb := Lib.hid (hpb.cast (show _ = propC V none 0 by simp [propC])); have HGb := Lib.hid hgb; have HPb := Lib.hid (HPa.out.grown hgb (by intro e; have := Option.some.inj e; omega)); clear hpb hgb)
          | (refine wpList_load_mid rfl 71 (.tmp 3) rfl w6.heap.size 0 rfl (propC V none 0) _ (Blk.whole HXb.out) Try.underlying71 rfl (by rw [HVl.out]; exact infoProp) ?_)
          | (refine wpList_store_blk rfl 71 _ _ rfl w.heap.size rfl (propC V none 0) rfl _ _ HPb.out (by rw [zPropL_len, HVl.out]) (by rw [HVl.out]; exact infoProp) (propC_one _ _ _) ?_; intro wc hpc hgc; have HPc := Lib.hid hpc; have HGc := Lib.hid hgc; clear hpc hgc))
        refine bodyPost_ret (results_blk (g := w.heap.size) rfl _ _ _ _ _ rfl HPc.out Try.underlying71 rfl (by rw [HVl.out]; exact infoProp)) rfl ?_
        have hbb : w.grownBy wb (some g) := grownBy_trans HGa.out HGb.out (fun _ e => .inr (by cases e; omega))
        refine ⟨none, 0, rfl, ?_, eye_grown (eye_grown HEa.out HGb.out (by omega) (by omega)) HGc.out (by omega) hgl, grownBy_trans hbb HGc.out (fun _ e => .inr (by cases e; exact Nat.le_refl _))⟩
        exact ((HOa.out.kept HGb.out (.inr (fun e => by have := HOa.out.lt _ e; omega))).kept HGc.out (.inr (fun e => by have := HOa.out.lt _ e; omega))).less (by omega)
      · have f1 : (k == 1) = false := by simp; omega
        have f2 : (k == 2) = false := by simp; omega
        have f3 : (k == 3) = false := by simp; omega
        have hK1 : K ≠ 1 ∧ K ≠ 2 ∧ K ≠ 3 := by have := HkK.out; omega
        have hN : (zNode, s5) = (V.leaf, s6) := by have := V6.out; unfold prLeaf at this; rwa [if_neg (by omega)] at this
        have hT : (zero32, s6) = (V.start, s7) := by have := V7.out; unfold prStart at this; rwa [if_neg (by omega)] at this
        have h8 : s8 = s7 := by have := V8.out; unfold prAt at this; rw [if_neg (by omega)] at this; injection this with _ h; exact h.symm
        have ha0 : V.at_ = 0 := by have := V8'.out; unfold prAt at this; rw [if_neg (by omega)] at this; exact this.symm
        obtain ⟨hlf, h6⟩ := Prod.mk.inj hN
        obtain ⟨hst, h7⟩ := Prod.mk.inj hT
        subst h8 h7 h6
        have HLF := Lib.hid hlf
        have HST := Lib.hid hst
        have HA0 := Lib.hid ha0
        clear hN hst ha0 hK1 hk1 hk2 hk3 hT hlf
        go_enter Try.func81, Try.ntmps81
        go_wp2_with fail
        generalize hW1 : World.alloc w _ = W1
        have HE1 := Lib.hid (show EyeS W1 B g s by rw [← hW1]; exact HE0.out)
        have HP1 := Lib.hid (show Blk W1 w.heap.size 71 zPropL by rw [← hW1]; exact HP0.out)
        have HG1 := Lib.hid (show w.grownBy W1 (some g) by rw [← hW1]; exact HG0.out)
        have hq1 : w.heap.size + 1 ≤ W1.heap.size := by rw [← hW1]; simp
        clear hW1 HE0 HP0 HG0
        refine (C1.out _ HE1.out).mono ?_
        rintro e w2 ⟨rfl, he2, hg2⟩
        have HE2 := Lib.hid he2
        have HP2 := Lib.hid (HP1.out.grown hg2 (by intro e; have := Option.some.inj e; omega))
        have HG2 := Lib.hid (grownBy_trans HG1.out hg2 (fun _ e => .inl e))
        have hq2 := Nat.le_trans hq1 hg2.size
        clear HE1 HP1 HG1 C1 he2 hg2
        go_wp2_with fail
        refine (C2.out _ HE2.out).mono ?_
        rintro e w3 ⟨rfl, he3, hg3⟩
        have HE3 := Lib.hid he3
        have HP3 := Lib.hid (HP2.out.grown hg3 (by intro e; have := Option.some.inj e; omega))
        have HG3 := Lib.hid (grownBy_trans HG2.out hg3 (fun _ e => .inl e))
        have hq3 := Nat.le_trans hq2 hg3.size
        clear HE2 HP2 HG2 C2 he3 hg3
        go_wp2_with fail
        refine (C3.out _ HE3.out).mono ?_
        rintro e w4 ⟨rfl, he4, hg4⟩
        have HE4 := Lib.hid he4
        have HP4 := Lib.hid (HP3.out.grown hg4 (by intro e; have := Option.some.inj e; omega))
        have HG4 := Lib.hid (grownBy_trans HG3.out hg4 (fun _ e => .inl e))
        have hq4 := Nat.le_trans hq3 hg4.size
        clear HE3 HP3 HG3 C3 he4 hg4
        go_wp2_with fail
        refine (C4.out _ HE4.out).mono ?_
        rintro e w5 ⟨rfl, he5, hg5⟩
        have HE5 := Lib.hid he5
        have HP5 := Lib.hid (HP4.out.grown hg5 (by intro e; have := Option.some.inj e; omega))
        have HG5 := Lib.hid (grownBy_trans HG4.out hg5 (fun _ e => .inl e))
        have hq5 := Nat.le_trans hq4 hg5.size
        clear HE4 HP4 HG4 C4 he5 hg5
        go_wp2_with fail
        refine (C5.out _ HE5.out).mono ?_
        rintro e w6 ⟨rfl, he6, hg6⟩
        have HE6 := Lib.hid he6
        have HP6 := Lib.hid (HP5.out.grown hg6 (by intro e; have := Option.some.inj e; omega))
        have HG6 := Lib.hid (grownBy_trans HG5.out hg6 (fun _ e => .inl e))
        have hq6 := Nat.le_trans hq5 hg6.size
        clear HE5 HP5 HG5 C5 he6 hg6
        have HXl := Lib.hid (show (propC ⟨V.grp, V.ep, V.frm, V.base, k, zNode, zero32, 0, zSig⟩ none 0).length = 263 by simp [propC, HOk.out.grp, HOk.out.base, nodeC_len zNode_ok, zero32_len, zSig])
        go_wp2_with (first
          | (refine wpList_build_at rfl 71 [(0, .tmp 5), (1, .tmp 7), (2, .tmp 9), (3, .tmp 11), (4, .tmp 13)] rfl _ _ rfl HBu.out ?_)
          | (refine wpList_store_blk rfl 71 _ _ rfl w6.heap.size rfl (propC ⟨V.grp, V.ep, V.frm, V.base, k, zNode, zero32, 0, zSig⟩ none 0) rfl _ _ (Blk.new w6 71 zPropL) (by rw [zPropL_len, HXl.out]) (by rw [HXl.out]; exact infoProp) (propC_one _ _ _) ?_; intro w7 hp7 hg7; have HX7 := Lib.hid hp7; have HG7' := Lib.hid hg7; have c66 := propK hp7 HOk.out.grp HOk.out.base; clear hp7 hg7))
        have hb7 : Below w6.heap.size w6 w7 := below_box HG7'.out
        have hgk : g < w6.heap.size := HE6.out.lt
        have HE7 := Lib.hid (show EyeS w7 B g s5 from HE6.out.below hb7 (Nat.le_refl _))
        have HP7 := Lib.hid (HP6.out.below hb7 (by omega))
        have HG7 := Lib.hid (grown_below HG6.out (hb7.mono (by omega)))
        have hq7 : w6.heap.size + 1 ≤ w7.heap.size := by have := HG7'.out.size; simpa using this
        clear hb7 HG7' HE6 HP6 HG6 c66
        have HXn := Lib.hid (HX7.out.cast (show _ = propC ⟨V.grp, V.ep, V.frm, V.base, V.kind, V.leaf, V.start, V.at_, zSig⟩ none 0 by rw [← HKk.out, ← HLF.out, ← HST.out, HA0.out]))
        have HEn := HE7
        have HPn := HP7
        have HGn := HG7
        have HOn := Lib.hid (show Own cI w7 w7.heap.size 3 (.slice none V.leaf.um.length 0) V.leaf.um by rw [← HLF.out]; exact Own.nil_ _ _ _ _)
        have hqn : w7.heap.size ≤ w7.heap.size := Nat.le_refl _
        refine (C9.out _ HEn.out).mono ?_
        rintro e wa ⟨rfl, hea, hga⟩
        have HEa := Lib.hid hea
        have HPa := Lib.hid (HPn.out.grown hga (by intro e; have := Option.some.inj e; omega))
        have HXa := Lib.hid (HXn.out.grown hga (by intro e; have := Option.some.inj e; omega))
        have HGa := Lib.hid (grownBy_trans HGn.out hga (fun _ e => .inl e))
        have HOa := Lib.hid (HOn.out.kept hga (.inr (fun e => by have := HOn.out.lt _ e; omega)))
        have hqa := Nat.le_trans hqn hga.size
        have HVl := Lib.hid (show (propC V none 0).length = 263 from propC_len HOk.out _ _)
        clear hea hga HEn HPn HXn HGn HOn C9
        go_wp2_with (first
          | (refine wpList_store_piece rfl 62 _ _ rfl w6.heap.size 199 rfl (V.sig.map b8) rfl 71 _ (V.grp.map b8 ++ (.int .i64 V.ep :: .int .i64 V.frm :: (V.base.map b8 ++ (.int .i64 V.kind :: (nodeC V.leaf none 0 ++ (V.start.map b8 ++ [.int .i64 V.at_])))))) (zSig.map b8) [] HXa.out (by simp [propC]) (by simp [HOk.out.grp, HOk.out.base, HOk.out.start, nodeC_len HOk.out.leaf]) (by rw [List.length_map, List.length_map, HOk.out.sig]; rfl) (by rw [List.length_map, HOk.out.sig]; exact infoWideS) (b8s_one _) ?_; intro wb hpb hgb; have HXb := Lib.hid (hpb.cast (show _ = propC V none 0 by simp [propC])); have HGb := Lib.hid hgb; have HPb := Lib.hid (HPa.out.grown hgb (by intro e; have := Option.some.inj e; omega)); clear hpb hgb)
          | (refine wpList_load_mid rfl 71 (.tmp 3) rfl w6.heap.size 0 rfl (propC V none 0) _ (Blk.whole HXb.out) Try.underlying71 rfl (by rw [HVl.out]; exact infoProp) ?_)
          | (refine wpList_store_blk rfl 71 _ _ rfl w.heap.size rfl (propC V none 0) rfl _ _ HPb.out (by rw [zPropL_len, HVl.out]) (by rw [HVl.out]; exact infoProp) (propC_one _ _ _) ?_; intro wc hpc hgc; have HPc := Lib.hid hpc; have HGc := Lib.hid hgc; clear hpc hgc))
        refine bodyPost_ret (results_blk (g := w.heap.size) rfl _ _ _ _ _ rfl HPc.out Try.underlying71 rfl (by rw [HVl.out]; exact infoProp)) rfl ?_
        have hbb : w.grownBy wb (some g) := grownBy_trans HGa.out HGb.out (fun _ e => .inr (by cases e; omega))
        refine ⟨none, 0, rfl, ?_, eye_grown (eye_grown HEa.out HGb.out (by omega) (by omega)) HGc.out (by omega) hgl, grownBy_trans hbb HGc.out (fun _ e => .inr (by cases e; exact Nat.le_refl _))⟩
        exact ((HOa.out.kept HGb.out (.inr (fun e => by have := HOa.out.lt _ e; omega))).kept HGc.out (.inr (fun e => by have := HOa.out.lt _ e; omega))).less (by omega)
end Go.Proofs.Ytloglpamnalmeaa
