/- CONTRACT: wire.TakeInfo. -/
import Derived.Test.YtloglpamnalmeaaChkInfo
import Derived.Test.YtloglpamnalmeaaInfLaw
namespace Go.Proofs.Ytloglpamnalmeaa
open Go.RowKit
set_option linter.unusedVariables false
set_option linter.unusedSimpArgs false

theorem list64 {α : Type} {xs : List α} (h : xs.length = 64) : ∃ x0 x1 x2 x3 x4 x5 x6 x7 x8 x9 x10 x11 x12 x13 x14 x15 x16 x17 x18 x19 x20 x21 x22 x23 x24 x25 x26 x27 x28 x29 x30 x31 x32 x33 x34 x35 x36 x37 x38 x39 x40 x41 x42 x43 x44 x45 x46 x47 x48 x49 x50 x51 x52 x53 x54 x55 x56 x57 x58 x59 x60 x61 x62 x63, xs = x0 :: x1 :: x2 :: x3 :: x4 :: x5 :: x6 :: x7 :: x8 :: x9 :: x10 :: x11 :: x12 :: x13 :: x14 :: x15 :: x16 :: x17 :: x18 :: x19 :: x20 :: x21 :: x22 :: x23 :: x24 :: x25 :: x26 :: x27 :: x28 :: x29 :: x30 :: x31 :: x32 :: x33 :: x34 :: x35 :: x36 :: x37 :: x38 :: x39 :: x40 :: x41 :: x42 :: x43 :: x44 :: x45 :: x46 :: x47 :: x48 :: x49 :: x50 :: x51 :: x52 :: x53 :: x54 :: x55 :: x56 :: x57 :: x58 :: x59 :: x60 :: x61 :: x62 :: x63 :: [] :=
  match xs, h with
  | x0 :: x1 :: x2 :: x3 :: x4 :: x5 :: x6 :: x7 :: x8 :: x9 :: x10 :: x11 :: x12 :: x13 :: x14 :: x15 :: x16 :: x17 :: x18 :: x19 :: x20 :: x21 :: x22 :: x23 :: x24 :: x25 :: x26 :: x27 :: x28 :: x29 :: x30 :: x31 :: x32 :: x33 :: x34 :: x35 :: x36 :: x37 :: x38 :: x39 :: x40 :: x41 :: x42 :: x43 :: x44 :: x45 :: x46 :: x47 :: x48 :: x49 :: x50 :: x51 :: x52 :: x53 :: x54 :: x55 :: x56 :: x57 :: x58 :: x59 :: x60 :: x61 :: x62 :: x63 :: [], _ => ⟨x0, x1, x2, x3, x4, x5, x6, x7, x8, x9, x10, x11, x12, x13, x14, x15, x16, x17, x18, x19, x20, x21, x22, x23, x24, x25, x26, x27, x28, x29, x30, x31, x32, x33, x34, x35, x36, x37, x38, x39, x40, x41, x42, x43, x44, x45, x46, x47, x48, x49, x50, x51, x52, x53, x54, x55, x56, x57, x58, x59, x60, x61, x62, x63, rfl⟩
set_option maxRecDepth 100000 in
theorem built_info (G C T S : List (BitVec 8)) (ep frm : Int) (A : Option Addr) (n c : Nat) (hG : G.length = 32) (hC : C.length = 32) (hT : T.length = 32) (hS : S.length = 64) :
    Try.prog.built 64 [(0, .agg (G.map b8).toArray), (1, .int .i64 ep), (2, .slice A n c), (3, .agg (C.map b8).toArray), (4, .agg (T.map b8).toArray), (5, .int .i64 frm), (6, .agg (S.map b8).toArray)] = some (infC ⟨G, ep, C, T, frm, S⟩ A n c).toArray := by
  obtain ⟨g0, g1, g2, g3, g4, g5, g6, g7, g8, g9, g10, g11, g12, g13, g14, g15, g16, g17, g18, g19, g20, g21, g22, g23, g24, g25, g26, g27, g28, g29, g30, g31, rfl⟩ := list32 hG
  obtain ⟨y0, y1, y2, y3, y4, y5, y6, y7, y8, y9, y10, y11, y12, y13, y14, y15, y16, y17, y18, y19, y20, y21, y22, y23, y24, y25, y26, y27, y28, y29, y30, y31, rfl⟩ := list32 hC
  obtain ⟨t0, t1, t2, t3, t4, t5, t6, t7, t8, t9, t10, t11, t12, t13, t14, t15, t16, t17, t18, t19, t20, t21, t22, t23, t24, t25, t26, t27, t28, t29, t30, t31, rfl⟩ := list32 hT
  obtain ⟨s0, s1, s2, s3, s4, s5, s6, s7, s8, s9, s10, s11, s12, s13, s14, s15, s16, s17, s18, s19, s20, s21, s22, s23, s24, s25, s26, s27, s28, s29, s30, s31, s32, s33, s34, s35, s36, s37, s38, s39, s40, s41, s42, s43, s44, s45, s46, s47, s48, s49, s50, s51, s52, s53, s54, s55, s56, s57, s58, s59, s60, s61, s62, s63, rfl⟩ := list64 hS
  kernel_rfl

set_option maxRecDepth 100000 in
set_option maxHeartbeats 4000000 in
theorem takeInfo_any {w : World} {B' : Nat} {A : Option Addr} {n c : Nat} {bs : List (BitVec 8)} (hr : Rd b8 w B' A bs) (hB' : B' ≤ w.heap.size) (hn : bs.length = n) (hnc : n ≤ c) (hy : n ≤ 1000000) :
    Calls Try.prog 31 #[.slice A n c] w fun e w' => Below w.heap.size w w' ∧
      ((goodI bs = true ∧ ∃ A1 c1 ts, e = .returned (.tuple #[.agg (infC (infV (bs, false)) A1 ts.length c1).toArray, .nilIface]) ∧ OwnT w' w.heap.size (.slice A1 ts.length c1) ts ∧ ts.map (·.x) = infN (bs, false)) ∨
       (goodI bs = false ∧ e = .returned (.tuple #[.agg zerosInfo.toArray, .iface 108 (.int .i64 3)]))) := by
  have HR := Lib.hid hr
  have HN := Lib.hid hn
  have hb0 : bs.length ≤ 1000000 := by rw [hn]; exact hy
  obtain ⟨s0, hs0⟩ : ∃ s0 : St, s0 = (bs, false) := ⟨_, rfl⟩
  rw [← hs0]
  have l0 : s0.1.length ≤ 1000000 := by rw [hs0]; exact hb0
  have l1 : (infS1 s0).1.length ≤ 1000000 := by have := pTk_le 32 s0; unfold infS1; omega
  have l2 : (infS2 s0).1.length ≤ 1000000 := by have := pNum_le 4 (infS1 s0); unfold infS2; omega
  have l3 : (infS3 s0).1.length ≤ 1000000 := by have := pList_le pNode pNode_le (infS2 s0); unfold infS3; omega
  have l4 : (infS4 s0).1.length ≤ 1000000 := by have := pTk_le 32 (infS3 s0); unfold infS4; omega
  have l5 : (infS5 s0).1.length ≤ 1000000 := by have := pTk_le 32 (infS4 s0); unfold infS5; omega
  have l6 : (infS6 s0).1.length ≤ 1000000 := by have := pNum_le 1 (infS5 s0); unfold infS6; omega
  have hok := infV_ok s0
  obtain ⟨q, hq⟩ : ∃ q, q = goodI bs := ⟨_, rfl⟩
  rw [← hq]
  have hLum : ∀ x ∈ infN s0, x.um.length ≤ 300 := pMany_all pNode (fun x => x.um.length ≤ 300) (fun s => by have := pNode_um s; omega) _ _
  have hLl : (infN s0).length ≤ 255 := pList_len pNode (infS2 s0)
  have hqq : q = chkGood (infS7 s0).2 (infS7 s0).1 bs (infBadX (infV s0) (infN s0) || decide (65536 < (infBX (infV s0) (infN s0)).length)) (infBX (infV s0) (infN s0)) := by rw [hq, hs0]; rfl
  obtain ⟨s1, hs1⟩ : ∃ s, s = infS1 s0 := ⟨_, rfl⟩
  obtain ⟨s2, hs2⟩ : ∃ s, s = infS2 s0 := ⟨_, rfl⟩
  obtain ⟨s3, hs3⟩ : ∃ s, s = infS3 s0 := ⟨_, rfl⟩
  obtain ⟨s4, hs4⟩ : ∃ s, s = infS4 s0 := ⟨_, rfl⟩
  obtain ⟨s5, hs5⟩ : ∃ s, s = infS5 s0 := ⟨_, rfl⟩
  obtain ⟨s6, hs6⟩ : ∃ s, s = infS6 s0 := ⟨_, rfl⟩
  obtain ⟨s7, hs7⟩ : ∃ s, s = infS7 s0 := ⟨_, rfl⟩
  obtain ⟨V, hV⟩ : ∃ V, V = infV s0 := ⟨_, rfl⟩
  obtain ⟨L, hL⟩ : ∃ L, L = infN s0 := ⟨_, rfl⟩
  rw [← hV, ← hL, ← hs7] at hqq
  rw [← hV, ← hL]
  rw [← hV] at hok
  rw [← hL] at hLum hLl
  rw [← hs1] at l1
  rw [← hs2] at l2
  rw [← hs3] at l3
  rw [← hs4] at l4
  rw [← hs5] at l5
  rw [← hs6] at l6
  have v1 : (pTk 32 s0).1 = V.grp := by rw [hV, infV_grp]
  have v2 : ((pNum 4 s1).1 : Int) = V.ep := by rw [hV, infV_ep, hs1]
  have v4 : (pTk 32 s3).1 = V.conf := by rw [hV, infV_conf, hs3]
  have v5 : (pTk 32 s4).1 = V.tag := by rw [hV, infV_tag, hs4]
  have v6 : ((pNum 1 s5).1 : Int) = V.frm := by rw [hV, infV_frm, hs5]
  have v7 : (pTk 64 s6).1 = V.sig := by rw [hV, infV_sig, hs6]
  have v3 : (pList pNode s2).1 = L := by rw [hL, infN, hs2]
  have u1 : (pTk 32 s0).2 = s1 := by rw [hs1, infS1]
  have u2 : (pNum 4 s1).2 = s2 := by rw [hs2, infS2, hs1]
  have u3 : (pList pNode s2).2 = s3 := by rw [hs3, infS3, hs2]
  have u4 : (pTk 32 s3).2 = s4 := by rw [hs4, infS4, hs3]
  have u5 : (pTk 32 s4).2 = s5 := by rw [hs5, infS5, hs4]
  have u6 : (pNum 1 s5).2 = s6 := by rw [hs6, infS6, hs5]
  have u7 : (pTk 64 s6).2 = s7 := by rw [hs7, infS7, hs6]
  obtain ⟨g, hg⟩ : ∃ g, g = w.heap.size + 1 := ⟨_, rfl⟩
  have C1 := Lib.hid (fun (W : World) (h : EyeS W w.heap.size (w.heap.size + 1) s0) => (show Calls Try.prog 59 #[.pointer (some ⟨w.heap.size + 1, 0, none⟩)] W fun e w' => e = .returned (.agg (V.grp.map b8).toArray) ∧ EyeS w' w.heap.size (w.heap.size + 1) s1 ∧ W.grownBy w' (some (w.heap.size + 1)) by rw [← arrV_mk, ← v1, ← u1]; exact sumS_any h (by omega)))
  have C2 := Lib.hid (fun (W : World) (h : EyeS W w.heap.size (w.heap.size + 1) s1) => (show Calls Try.prog 60 #[.pointer (some ⟨w.heap.size + 1, 0, none⟩), .int .i64 4] W fun e w' => e = .returned (.int .i64 V.ep) ∧ EyeS w' w.heap.size (w.heap.size + 1) s2 ∧ W.grownBy w' (some (w.heap.size + 1)) by rw [← v2, ← u2]; exact numS_any h 4 4 rfl (by omega) (by omega)))
  have C3 := Lib.hid (fun (W : World) (h : EyeS W w.heap.size (w.heap.size + 1) s2) => (show Calls Try.prog 71 #[.pointer (some ⟨w.heap.size + 1, 0, none⟩), .func (.func 72) #[] #[]] W fun e w' => ∃ v ts, e = .returned v ∧ OwnT w' W.heap.size v ts ∧ ts.map (·.x) = L ∧ EyeS w' w.heap.size (w.heap.size + 1) s3 ∧ W.grownBy w' (some (w.heap.size + 1)) by rw [← v3, ← u3]; exact manyNode_any h (by omega)))
  have C4 := Lib.hid (fun (W : World) (h : EyeS W w.heap.size (w.heap.size + 1) s3) => (show Calls Try.prog 59 #[.pointer (some ⟨w.heap.size + 1, 0, none⟩)] W fun e w' => e = .returned (.agg (V.conf.map b8).toArray) ∧ EyeS w' w.heap.size (w.heap.size + 1) s4 ∧ W.grownBy w' (some (w.heap.size + 1)) by rw [← arrV_mk, ← v4, ← u4]; exact sumS_any h (by omega)))
  have C5 := Lib.hid (fun (W : World) (h : EyeS W w.heap.size (w.heap.size + 1) s4) => (show Calls Try.prog 59 #[.pointer (some ⟨w.heap.size + 1, 0, none⟩)] W fun e w' => e = .returned (.agg (V.tag.map b8).toArray) ∧ EyeS w' w.heap.size (w.heap.size + 1) s5 ∧ W.grownBy w' (some (w.heap.size + 1)) by rw [← arrV_mk, ← v5, ← u5]; exact sumS_any h (by omega)))
  have C6 := Lib.hid (fun (W : World) (h : EyeS W w.heap.size (w.heap.size + 1) s5) => (show Calls Try.prog 60 #[.pointer (some ⟨w.heap.size + 1, 0, none⟩), .int .i64 1] W fun e w' => e = .returned (.int .i64 V.frm) ∧ EyeS w' w.heap.size (w.heap.size + 1) s6 ∧ W.grownBy w' (some (w.heap.size + 1)) by rw [← v6, ← u6]; exact numS_any h 1 1 rfl (by omega) (by omega)))
  have C7 := Lib.hid (fun (W : World) (h : EyeS W w.heap.size (w.heap.size + 1) s6) => (show Calls Try.prog 75 #[.pointer (some ⟨w.heap.size + 1, 0, none⟩)] W fun e w' => e = .returned (.agg (V.sig.map b8).toArray) ∧ EyeS w' w.heap.size (w.heap.size + 1) s7 ∧ W.grownBy w' (some (w.heap.size + 1)) by rw [← arrV_mk, ← v7, ← u7]; exact wideS_any h (by omega)))
  have HQ := Lib.hid hqq
  have HLum := Lib.hid hLum
  have HOk := Lib.hid hok
  have HBu := Lib.hid (fun A n c => built_info V.grp V.conf V.tag V.sig V.ep V.frm A n c hok.grp hok.conf hok.tag hok.sig)
  have HF := Lib.hid (show ∀ W1, (w.alloc (.cells zerosInfo.toArray 64)).alloc (.cells #[.slice A n c, .bool false] 121) = W1 →
      Blk W1 w.heap.size 64 zerosInfo ∧ EyeS W1 w.heap.size (w.heap.size + 1) s0 ∧ Below w.heap.size w W1 ∧ w.heap.size + 2 ≤ W1.heap.size by
    rintro W1 rfl
    have hb : Below w.heap.size w ((w.alloc (.cells zerosInfo.toArray 64)).alloc (.cells #[.slice A n c, .bool false] 121)) := ((Below.refl _ _).alloc (Nat.le_refl _) _).alloc (by simp) _
    refine ⟨Blk.alloc (Blk.new w _ _) _, ⟨⟨A, c, ?_, ?_, by rw [hs0, HN.out]; exact hnc⟩, by omega⟩, hb, by simp⟩
    · rw [hs0, HN.out]
      exact Blk.at_size _ [.slice A n c, .bool false] (by simp)
    · rw [hs0]; exact (HR.out.below (hb.mono hB')).more hB')
  clear hr hn hb0 hs0 l0 l1 l2 l3 l4 l5 l6 hok hq hLum hqq hs1 hs2 hs3 hs4 hs5 hs6 hs7 hV hL v1 v2 v3 v4 v5 v6 v7 u1 u2 u3 u4 u5 u6 u7 hg
  clear g
  go_enter Try.func31, Try.ntmps31
  go_wp2_with fail
  generalize hW1 : World.alloc (World.alloc w _) _ = W1
  obtain ⟨hp1, he1, hb1, hq1⟩ := HF.out W1 hW1
  clear hW1 HF
  have HP1 := Lib.hid hp1
  have HE1 := Lib.hid he1
  have HB1 := Lib.hid hb1
  clear hp1 he1 hb1
  refine (C1.out _ HE1.out).mono ?_
  rintro e w2 ⟨rfl, he2, hg2⟩
  have HE2 := Lib.hid he2
  have HP2 := Lib.hid (HP1.out.grown hg2 (by intro e; have := Option.some.inj e; omega))
  have HB2 := Lib.hid (HB1.out.trans (below_grown hg2 (by omega) (by omega)) : Below w.heap.size w w2)
  have hq2 := Nat.le_trans hq1 hg2.size
  clear HE1 HP1 HB1 C1
  clear he2 hg2
  go_wp2_with fail
  refine (C2.out _ HE2.out).mono ?_
  rintro e w3 ⟨rfl, he3, hg3⟩
  have HE3 := Lib.hid he3
  have HP3 := Lib.hid (HP2.out.grown hg3 (by intro e; have := Option.some.inj e; omega))
  have HB3 := Lib.hid (HB2.out.trans (below_grown hg3 (by omega) (by omega)) : Below w.heap.size w w3)
  have hq3 := Nat.le_trans hq2 hg3.size
  clear HE2 HP2 HB2 C2
  clear he3 hg3
  go_wp2_with fail
  refine (C3.out _ HE3.out).mono ?_
  rintro e w4 ⟨v4, ts, rfl, ho4, hx4, he4, hg4⟩
  have HE4 := Lib.hid he4
  have HP4 := Lib.hid (HP3.out.grown hg4 (by intro e; have := Option.some.inj e; omega))
  have HB4 := Lib.hid (HB3.out.trans (below_grown hg4 (by omega) (by omega)) : Below w.heap.size w w4)
  have hq4 := Nat.le_trans hq3 hg4.size
  obtain ⟨A4, c4, rfl, -, -, -, -⟩ := ho4.shape
  have HO4 := Lib.hid (ho4.less (show w.heap.size + 2 ≤ w3.heap.size from hq3))
  have HX4 := Lib.hid hx4
  have hnl : ts.length ≤ 255 := by rw [← List.length_map (f := fun t : TN => t.x), hx4]; exact hLl
  clear ho4 hx4 he4 hg4 HE3 HP3 HB3 C3
  go_wp2_with fail
  refine (C4.out _ HE4.out).mono ?_
  rintro e w5 ⟨rfl, he5, hg5⟩
  have HE5 := Lib.hid he5
  have HP5 := Lib.hid (HP4.out.grown hg5 (by intro e; have := Option.some.inj e; omega))
  have HB5 := Lib.hid (HB4.out.trans (below_grown hg5 (by omega) (by omega)) : Below w.heap.size w w5)
  have hq5 := Nat.le_trans hq4 hg5.size
  have HO5 := Lib.hid (HO4.out.kept hg5 (by omega))
  clear HE4 HP4 HB4 C4 HO4 he5 hg5
  go_wp2_with fail
  refine (C5.out _ HE5.out).mono ?_
  rintro e w6 ⟨rfl, he6, hg6⟩
  have HE6 := Lib.hid he6
  have HP6 := Lib.hid (HP5.out.grown hg6 (by intro e; have := Option.some.inj e; omega))
  have HB6 := Lib.hid (HB5.out.trans (below_grown hg6 (by omega) (by omega)) : Below w.heap.size w w6)
  have hq6 := Nat.le_trans hq5 hg6.size
  have HO6 := Lib.hid (HO5.out.kept hg6 (by omega))
  clear HE5 HP5 HB5 C5 HO5 he6 hg6
  go_wp2_with fail
  refine (C6.out _ HE6.out).mono ?_
  rintro e w7 ⟨rfl, he7, hg7⟩
  have HE7 := Lib.hid he7
  have HP7 := Lib.hid (HP6.out.grown hg7 (by intro e; have := Option.some.inj e; omega))
  have HB7 := Lib.hid (HB6.out.trans (below_grown hg7 (by omega) (by omega)) : Below w.heap.size w w7)
  have hq7 := Nat.le_trans hq6 hg7.size
  have HO7 := Lib.hid (HO6.out.kept hg7 (by omega))
  clear HE6 HP6 HB6 C6 HO6 he7 hg7
  go_wp2_with fail
  refine (C7.out _ HE7.out).mono ?_
  rintro e w8 ⟨rfl, he8, hg8⟩
  have HE8 := Lib.hid he8
  have HP8 := Lib.hid (HP7.out.grown hg8 (by intro e; have := Option.some.inj e; omega))
  have HB8 := Lib.hid (HB7.out.trans (below_grown hg8 (by omega) (by omega)) : Below w.heap.size w w8)
  have hq8 := Nat.le_trans hq7 hg8.size
  have HO8 := Lib.hid (HO7.out.kept hg8 (by omega))
  clear HE7 HP7 HB7 C7 HO7 he8 hg8
  have HXl := Lib.hid (show (infC V A4 ts.length c4).length = 163 from infC_len HOk.out _ _ _)
  have HBu8 := Lib.hid (HBu.out A4 ts.length c4)
  clear HBu
  go_wp2_with (first
    | (refine wpList_build_at rfl 64 [(0, .tmp 10), (1, .tmp 12), (2, .tmp 14), (3, .tmp 16), (4, .tmp 18), (5, .tmp 20), (6, .tmp 22)] rfl _ _ rfl HBu8.out ?_)
    | (refine wpList_store_blk rfl 64 _ _ rfl w8.heap.size rfl (infC V A4 ts.length c4) rfl _ _ (Blk.new w8 64 zerosInfo) (by rw [zerosInfo_len, HXl.out]) (by rw [HXl.out]; exact infoInfo) (infC_one _ _ _ _) ?_; intro w9 hp9 hg9; have HX9 := Lib.hid hp9; have HG9 := Lib.hid hg9; clear hp9 hg9)
    | (refine wpList_load_mid rfl 64 (.tmp 5) rfl w8.heap.size 0 rfl (infC V A4 ts.length c4) _ (Blk.whole HX9.out) Try.underlying64 rfl (by rw [HXl.out]; exact infoInfo) ?_))
  have hb9 : Below w8.heap.size w8 w9 := below_box HG9.out
  have HE9 := Lib.hid (show EyeS w9 w.heap.size (w.heap.size + 1) s7 from HE8.out.below hb9 (Nat.le_refl _))
  have HP9 := Lib.hid (HP8.out.below hb9 (by omega))
  have HB9 := Lib.hid (HB8.out.trans (hb9.mono (by omega)))
  have HO9 := Lib.hid (HO8.out.below hb9 (Nat.le_refl _))
  have hq9 := Nat.le_trans hq8 hb9.size
  clear hb9 HG9 HE8 HP8 HB8 HO8
  have hum9 : ∀ t ∈ ts, t.x.um.length ≤ 300 := fun t ht => HLum.out t.x (by rw [← HX4.out]; exact List.mem_map_of_mem ht)
  have hck := checkInfo_any (c0 := c) HE9.out (HR.out.below (HB9.out.mono hB')) (by omega) HN.out hy (infC V A4 ts.length c4) HXl.out (infC_one _ _ _ _) (infBX V L) (infBadX V L || decide (65536 < (infBX V L).length))
    (fun W3 hb => by
      have h := putInf_any V HOk.out (n := ts.length) (c := c4) ((ownT_rd HO9.out).below hb) hb.size rfl (by omega) hum9
      rw [infBad_X, infB_X, HX4.out] at h
      exact h)
  rw [← HQ.out] at hck
  have HCk := Lib.hid hck
  clear hck hum9 HE9
  cases q with
  | true =>
    rw [if_pos rfl] at HCk
    refine HCk.out.mono ?_
    rintro e w10 ⟨rfl, hb10⟩
    have hz10 : w9.heap.size ≤ w10.heap.size := hb10.size
    have HP10 := Lib.hid (HP9.out.below hb10 (by omega))
    have HB10 := Lib.hid (HB9.out.trans (hb10.mono (by omega)))
    have HO10 := Lib.hid (HO9.out.below hb10 (Nat.le_refl _))
    clear hb10
    go_wp2_with (refine wpList_store_blk rfl 64 _ _ rfl w.heap.size rfl (infC V A4 ts.length c4) rfl _ _ HP10.out (by rw [zerosInfo_len, HXl.out]) (by rw [HXl.out]; exact infoInfo) (infC_one _ _ _ _) ?_; intro w11 hp11 hg11; have HP11 := Lib.hid hp11; have HG11 := Lib.hid hg11; clear hp11 hg11)
    refine bodyPost_ret (v := .tuple #[.agg (infC V A4 ts.length c4).toArray, .nilIface]) (results_blk_tmp (g := w.heap.size) rfl _ _ _ _ _ _ rfl rfl HP11.out Try.underlying64 rfl (by rw [HXl.out]; exact infoInfo)) rfl ?_
    exact ⟨HB10.out.grown HG11.out (by omega) (fun k e => by cases e; omega), A4, c4, ts, rfl, (HO10.out.kept HG11.out (by omega)).less (by omega), HX4.out⟩
  | false =>
    rw [if_neg (by simp)] at HCk
    refine HCk.out.mono ?_
    rintro e w10 ⟨rfl, hb10⟩
    have hz10 : w9.heap.size ≤ w10.heap.size := hb10.size
    have HP10 := Lib.hid (HP9.out.below hb10 (by omega))
    have HB10 := Lib.hid (HB9.out.trans (hb10.mono (by omega)))
    have HO10 := Lib.hid (HO9.out.below hb10 (Nat.le_refl _))
    clear hb10
    go_wp2_with (refine wpList_store_blk rfl 64 _ _ rfl w.heap.size rfl zerosInfo rfl _ _ HP10.out rfl (by rw [zerosInfo_len]; exact infoInfo) zerosInfo_one ?_; intro w11 hp11 hg11; have HP11 := Lib.hid hp11; have HG11 := Lib.hid hg11; clear hp11 hg11)
    refine bodyPost_ret (v := .tuple #[.agg zerosInfo.toArray, .iface 108 (.int .i64 3)]) (results_blk_tmp (g := w.heap.size) rfl _ _ _ _ _ _ rfl rfl HP11.out Try.underlying64 rfl (by rw [zerosInfo_len]; exact infoInfo)) rfl ?_
    exact ⟨HB10.out.grown HG11.out (by omega) (fun k e => by cases e; omega), rfl⟩
end Go.Proofs.Ytloglpamnalmeaa
