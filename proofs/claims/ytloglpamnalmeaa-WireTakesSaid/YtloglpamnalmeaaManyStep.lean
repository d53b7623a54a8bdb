/- CONTRACTS: wire.readStep, wire.many[Step]. -/
import Derived.Test.YtloglpamnalmeaaReadStep
namespace Go.Proofs.Ytloglpamnalmeaa
open Go.RowKit
set_option linter.unusedVariables false
set_option linter.unusedSimpArgs false

/-- what a step says -/
structure StepV where
  key : List (BitVec 8)
  rows : List (List (BitVec 8))
def StepT.v (t : StepT) : StepV := ⟨t.key, t.rows.map (·.xs)⟩
def pStep (s : St) : StepV × St := (⟨(pTk 32 s).1, (pList pRow (pTk 32 s).2).1⟩, (pList pRow (pTk 32 s).2).2)
theorem pStep_two (s : St) : (pStep s).2 = (pList pRow (pTk 32 s).2).2 := by rw [pStep]
theorem pStep_le (s : St) : (pStep s).2.1.length ≤ s.1.length := by
  have h1 := pTk_le 32 s
  have h2 := pList_le pRow pRow_le (pTk 32 s).2
  rw [pStep_two]
  omega
structure OwnSEl (w : World) (B : Nat) (t : StepT) : Prop where
  key : t.key.length = 32
  rows : OwnR w B (.slice t.A t.rows.length t.c) t.rows
  len : t.rows.length ≤ 255
theorem OwnSEl.kept {w w' : World} {B : Nat} {t : StepT} (h : OwnSEl w B t) {g : Nat} (hg : w.grownBy w' (some g)) (hlt : g < B) : OwnSEl w' B t := ⟨h.key, h.rows.kept hg hlt, h.len⟩
theorem OwnSEl.below {w w' : World} {B C : Nat} {t : StepT} (h : OwnSEl w B t) (hb : Below C w w') (hC : w.heap.size ≤ C) : OwnSEl w' B t := ⟨h.key, h.rows.below hb hC, h.len⟩
theorem OwnSEl.less {w : World} {B B' : Nat} {t : StepT} (h : OwnSEl w B t) (hB : B' ≤ B) : OwnSEl w B' t := ⟨h.key, h.rows.less hB, h.len⟩
theorem OwnSEl.rd {w : World} {B : Nat} {t : StepT} (h : OwnSEl w B t) : ElS w w.heap.size t := by
  obtain ⟨A', c', e, hr⟩ := h.rows.shape
  cases e
  exact ⟨h.key, hr, by have := h.len; omega⟩
theorem OwnSEl.far {w w' : World} {B C n : Nat} {v : Value} {us : List Value} {t : StepT} (h : OwnSEl w B t) (hr : w.ownsRow C 144 33 v n us) (hg : w.grownBy w' v.ownBlock) : OwnSEl w' B t :=
  ⟨h.key, ⟨rowS_kept' h.rows.row hg (fun b e => rowS_unlike hr h.rows.row (by decide) b e), fun r hr' => ⟨(h.rows.xs r hr').1.kept' hg (fun b e => rowS_unlike hr (h.rows.xs r hr').1 (by decide) b e), (h.rows.xs r hr').2⟩⟩, h.len⟩
set_option maxRecDepth 100000 in
theorem built_step (G : List (BitVec 8)) (A : Option Addr) (n c : Nat) (hG : G.length = 32) :
    Try.prog.built 144 [(0, .agg (G.map b8).toArray), (1, .slice A n c)] = some (G.map b8 ++ [Value.slice A n c]).toArray := by
  obtain ⟨x0, x1, x2, x3, x4, x5, x6, x7, x8, x9, x10, x11, x12, x13, x14, x15, x16, x17, x18, x19, x20, x21, x22, x23, x24, x25, x26, x27, x28, x29, x30, x31, rfl⟩ := list32 hG
  kernel_rfl
set_option maxRecDepth 100000 in
set_option maxHeartbeats 2000000 in
theorem readStep_any {w : World} {B g : Nat} {s : St} (hE : EyeS w B g s) (hy : s.1.length ≤ 10000000) :
    Calls Try.prog 88 #[.pointer (some ⟨g, 0, none⟩)] w fun e w' => ∃ t : StepT, e = .returned (.agg t.cells.toArray) ∧ OwnSEl w' w.heap.size t ∧ t.v = (pStep s).1 ∧ EyeS w' B g (pStep s).2 ∧ w.grownBy w' (some g) := by
  have l1 : (pTk 32 s).2.1.length ≤ 10000000 := Nat.le_trans (pTk_le 32 s) hy
  obtain ⟨G, hG⟩ : ∃ G, G = (pTk 32 s).1 := ⟨_, rfl⟩
  obtain ⟨s1, hs1⟩ : ∃ t, t = (pTk 32 s).2 := ⟨_, rfl⟩
  have hGl : G.length = 32 := by rw [hG]; exact pTk_len _ _
  have hp : pStep s = (⟨G, (pList pRow s1).1⟩, (pList pRow s1).2) := by rw [pStep, hG, hs1]
  have hll := pList_len pRow s1
  rw [hp]
  rw [← hs1] at l1
  have C1 := Lib.hid (fun (W : World) (h : EyeS W B g s) => (show Calls Try.prog 107 #[.pointer (some ⟨g, 0, none⟩)] W fun e w' => e = .returned (.agg (G.map b8).toArray) ∧ EyeS w' B g s1 ∧ W.grownBy w' (some g) by rw [← arrV_mk, hG, hs1]; exact keyS_any h (by omega)))
  have C2 := Lib.hid (fun (W : World) (h : EyeS W B g s1) => manyRow_any h l1)
  have hgl := hE.lt
  have HE0 := Lib.hid (hE.below ((Below.refl w.heap.size w).alloc (Nat.le_refl _) (.cells zStep.toArray 144)) (Nat.le_refl _))
  have HP0 := Lib.hid (Blk.new w 144 zStep)
  have HG0 := Lib.hid (World.grownBy_alloc w (.cells zStep.toArray 144) (some g))
  have HGl := Lib.hid hGl
  clear hE hG hs1 hp hy hGl
  go_enter Try.func88, Try.ntmps88
  go_wp2_with fail
  generalize hW1 : World.alloc w _ = W1
  have HE1 := Lib.hid (show EyeS W1 B g s by rw [← hW1]; exact HE0.out)
  have HP1 := Lib.hid (show Blk W1 w.heap.size 144 zStep by rw [← hW1]; exact HP0.out)
  have HG1 := Lib.hid (show w.grownBy W1 (some g) by rw [← hW1]; exact HG0.out)
  have hq1 : w.heap.size + 1 ≤ W1.heap.size := by rw [← hW1]; simp
  clear hW1 HE0 HP0 HG0
  refine (C1.out _ HE1.out).mono ?_
  rintro e w2 ⟨rfl, he2, hg2⟩
  have HE2 := Lib.hid he2
  have HP2 := Lib.hid (HP1.out.grown hg2 (by intro e; have := Option.some.inj e; omega))
  have HG2 := Lib.hid (grownBy_trans HG1.out hg2 (fun _ e => .inl e))
  have hq2 := Nat.le_trans hq1 hg2.size
  clear he2 hg2 HE1 HP1 HG1 C1
  go_wp2_with fail
  refine (C2.out _ HE2.out).mono ?_
  rintro e w3 ⟨v3, rs, rfl, ho3, hr3, he3, hg3⟩
  obtain ⟨A3, c3, rfl, -⟩ := ho3.shape
  have HE3 := Lib.hid he3
  have HP3 := Lib.hid (HP2.out.grown hg3 (by intro e; have := Option.some.inj e; omega))
  have HG3 := Lib.hid (grownBy_trans HG2.out hg3 (fun _ e => .inl e))
  have HO3 := Lib.hid ho3
  have HR3 := Lib.hid hr3
  have hrl : rs.length ≤ 255 := by have := congrArg List.length hr3; rw [List.length_map] at this; omega
  obtain ⟨n, hn⟩ : ∃ n, n = rs.length := ⟨_, rfl⟩
  have HNn := Lib.hid hn
  rw [← hn]
  have HBu := Lib.hid (built_step G A3 n c3 HGl.out)
  have HXl := Lib.hid (show (G.map b8 ++ [Value.slice A3 n c3]).length = 33 by simp [HGl.out])
  clear he3 hg3 ho3 hr3 HE2 HP2 HG2 C2 hn
  go_wp2_with (first
    | (refine wpList_build_at rfl 144 [(0, .tmp 4), (1, .tmp 6)] rfl _ _ rfl HBu.out ?_)
    | (refine wpList_store_blk rfl 144 _ _ rfl w.heap.size rfl (G.map b8 ++ [Value.slice A3 n c3]) rfl _ _ HP3.out (by rw [zStep_len, HXl.out]) (by rw [HXl.out]; exact infoStep) (by intro u hu; rcases List.mem_append.1 hu with h | h; exact b8s_one _ u h; rw [List.mem_singleton.1 h]; rfl) ?_; intro w4 hp4 hg4; have HP4 := Lib.hid hp4; have HG4 := Lib.hid hg4; clear hp4 hg4))
  refine bodyPost_ret (results_blk (g := w.heap.size) rfl _ _ _ _ _ rfl HP4.out Try.underlying144 rfl (by rw [HXl.out]; exact infoStep)) rfl ?_
  refine ⟨⟨G, rs, A3, c3⟩, by unfold StepT.cells; rw [HNn.out], ⟨HGl.out, ?_, hrl⟩, by unfold StepT.v; rw [HR3.out], eye_grown HE3.out HG4.out (by omega) hgl, grownBy_trans HG3.out HG4.out (fun _ e => .inr (by cases e; exact Nat.le_refl _))⟩
  exact ((HO3.out.kept HG4.out (by omega)).less (by omega))
theorem infoStepZ : (Try.prog.info? 144).map (fun i => (i.zero, i.size, i.bytes)) = some (some (.agg zStep.toArray), 33, 56) := by kernel_rfl

structure OwnS (w : World) (B : Nat) (v : Value) (ts : List StepT) : Prop where
  row : w.ownsRow B 144 33 v ts.length (ts.flatMap StepT.cells)
  el : ∀ t ∈ ts, OwnSEl w B t
theorem OwnS.nil_ (w : World) (B : Nat) : OwnS w B (.slice none 0 0) [] := ⟨World.ownsRow_nil w B _ 33, (fun _ h => by cases h)⟩
theorem OwnS.kept {w w' : World} {B : Nat} {v : Value} {ts : List StepT} (h : OwnS w B v ts) {g : Nat} (hg : w.grownBy w' (some g)) (hlt : g < B) : OwnS w' B v ts :=
  ⟨rowS_kept' h.row hg (fun k e e2 => by cases e; have := World.ownsRow.lt h.row _ e2; omega), fun t ht => (h.el t ht).kept hg hlt⟩
theorem OwnS.below {w w' : World} {B C : Nat} {v : Value} {ts : List StepT} (h : OwnS w B v ts) (hb : Below C w w') (hC : w.heap.size ≤ C) : OwnS w' B v ts :=
  ⟨rowS_below h.row hb hC, fun t ht => (h.el t ht).below hb hC⟩
theorem OwnS.less {w : World} {B B' : Nat} {v : Value} {ts : List StepT} (h : OwnS w B v ts) (hB : B' ≤ B) : OwnS w B' v ts :=
  ⟨rowS_less h.row hB, fun t ht => (h.el t ht).less hB⟩
theorem OwnS.shape {w : World} {B : Nat} {v : Value} {ts : List StepT} (h : OwnS w B v ts) : ∃ A c, v = .slice A ts.length c ∧ RdS w w.heap.size A ts := by
  obtain ⟨A, c, e, hr, -, -, -⟩ := rowS_shape h.row
  exact ⟨A, c, e, ⟨hr, fun t ht => (h.el t ht).rd⟩⟩
theorem StepTC_snoc (ts : List StepT) (t : StepT) : (ts ++ [t]).flatMap StepT.cells = ts.flatMap StepT.cells ++ t.cells := by rw [List.flatMap_append]; simp

set_option maxRecDepth 100000 in
set_option maxHeartbeats 2000000 in
theorem manyStep_any {w : World} {B g : Nat} {s : St} (hE : EyeS w B g s) (hy : s.1.length ≤ 10000000) :
    Calls Try.prog 87 #[.pointer (some ⟨g, 0, none⟩), .func (.func 88) #[] #[]] w fun e w' => ∃ v ts, e = .returned v ∧ OwnS w' w.heap.size v ts ∧ ts.map StepT.v = (pList pStep s).1 ∧ EyeS w' B g (pList pStep s).2 ∧ w.grownBy w' (some g) := by
  obtain ⟨i0, hi0, hz0, hz1, hz2⟩ := info_parts infoStepZ
  have HN := Lib.hid (numS_any hE 1 1 rfl (by omega) (by omega))
  obtain ⟨N, hN⟩ : ∃ N, N = (pNum 1 s).1 := ⟨_, rfl⟩
  obtain ⟨s0, hs0⟩ : ∃ s0, s0 = (pNum 1 s).2 := ⟨_, rfl⟩
  have e : pList pStep s = pMany pStep N s0 := by rw [hN, hs0]; rfl
  obtain ⟨L, hL⟩ : ∃ L, L = (pMany pStep N s0).1 := ⟨_, rfl⟩
  obtain ⟨sL, hsL⟩ : ∃ sL, sL = (pMany pStep N s0).2 := ⟨_, rfl⟩
  have hlt : N < 256 := by rw [hN]; exact pNum1_lt s
  have hl0 : s0.1.length ≤ 10000000 := by rw [hs0]; exact Nat.le_trans (pNum_le 1 s) hy
  have HLL := Lib.hid (show pMany pStep N s0 = (L, sL) by rw [hL, hsL])
  rw [e, ← hL, ← hsL]
  rw [← hN, ← hs0] at HN
  have hgl := hE.lt
  clear hN hs0 e hL hsL hE hy
  go_enter Try.func87, Try.ntmps87
  go_wp2_with fail
  refine HN.out.mono ?_
  rintro e w1 ⟨rfl, he1, hg1⟩
  have HE1 := Lib.hid he1
  have HG1 := Lib.hid hg1
  have hsz1 : w.heap.size ≤ w1.heap.size := hg1.size
  clear he1 hg1
  go_wp2_with fail
  go_loopw [5, 8] (fun rv iv wr => ∃ (k : Nat) (ts : List StepT) (t : St), k ≤ N ∧ iv = .int .i64 (k : Int) ∧ ts.length = k ∧ t.1.length ≤ 10000000 ∧ (L, sL) = (ts.map StepT.v ++ (pMany pStep (N - k) t).1, (pMany pStep (N - k) t).2) ∧ OwnS wr w.heap.size rv ts ∧ EyeS wr B g t ∧ w.grownBy wr (some g)) (fun _ iv _ => N - (intOf iv).toNat)
  case atStart => exact ⟨0, [], s0, by omega, rfl, rfl, hl0, by rw [Nat.sub_zero, List.map_nil, List.nil_append, HLL.out], OwnS.nil_ _ _, HE1.out, HG1.out⟩
  case round =>
    obtain ⟨k, ts, t, hk, rfl, hal, htl, hLt, ho, he, hg⟩ := hrel
    have HO := Lib.hid ho
    have HE := Lib.hid he
    have HG := Lib.hid hg
    have HLt := Lib.hid hLt
    have HAl := Lib.hid hal
    have hzr : w.heap.size ≤ wr.heap.size := hg.size
    obtain ⟨Ar, cr, e1, -⟩ := ho.shape
    rw [hal] at e1
    subst e1
    clear ho hg hLt hal
    by_cases hlt2 : k < N
    · have hlt' : (k : Int) < (N : Int) := by omega
      obtain ⟨bd, hbd⟩ : ∃ bd, bd = t.2 := ⟨_, rfl⟩
      have HBd := Lib.hid hbd
      obtain ⟨⟨A0, c0, h1, -, -⟩, -⟩ := he
      rw [← hbd] at h1
      have c1 := h1.cell 1 rfl
      clear h1 hbd
      cases bd with
      | true =>
        go_wp2_with fail
        go_ret
        have h := HLt.out
        rw [pMany_bad pStep _ HBd.out.symm] at h
        injection h with h1 h2
        subst h1 h2
        exact ⟨_, ts, rfl, HO.out, by simp, HE.out, HG.out⟩
      | false =>
        go_wp2_with fail
        refine (readStep_any HE.out (by omega)).mono ?_
        rintro e w2 ⟨x, rfl, ho2, hv2, he2, hg2⟩
        have HE2 := Lib.hid he2
        have HG2 := Lib.hid (grownBy_trans HG.out hg2 (fun _ e => .inl e))
        have HO2 := Lib.hid (HO.out.kept hg2 (by omega))
        have HU2 := Lib.hid ho2
        have HV2 := Lib.hid hv2
        have hsz2 : w.heap.size ≤ w2.heap.size := HG2.out.size
        have HXl := Lib.hid (show x.cells.length = 33 from stepC_len HU2.out.key)
        have HX1 := Lib.hid (stepC_one x)
        have HRow := Lib.hid (rowS_below HO2.out.row ((Below.refl w2.heap.size w2).alloc (Nat.le_refl _) (.cells x.cells.toArray 144)) (Nat.le_refl _))
        rw [HAl.out] at HRow
        clear he2 hg2 ho2 hv2
        go_wp2_with (first
          | (refine wpList_box_slice rfl 78 144 (.tmp 17) rfl i0 _ 33 x.cells.toArray rfl HXl.out (by omega) (by omega) Try.underlying78 hi0 hz0 hz1 zStep_len ?_)
          | (at_builtin; refine wpList_append_row rfl (.tmp 14) (.tmp 18) 78 rfl 33 (by omega) w.heap.size 144 i0 _ 56 Try.underlying78 hi0 hz0 hz1 hz2 zStep_len _ k (ts.flatMap StepT.cells) rfl HRow.out (w2.heap.size + 1) (some ⟨w2.heap.size, 0, none⟩) 1 1 x.cells rfl HXl.out (by omega) (rdV_new w2 144 x.cells) HX1.out (by simp only [maxLen]; omega) (by omega) (by rw [World.size_alloc]; omega) ?_; intro v3 w3 hown3 hg3 hbb3; have HO3 := Lib.hid hown3; have HG3 := Lib.hid hg3; have HB3 := Lib.hid hbb3; clear hown3 hg3 hbb3))
        have hb3 : Below w.heap.size w2 w3 := HB3.out w.heap.size w2 (Nat.le_refl _) ((Below.refl _ w2).alloc hsz2 _)
        have hum : ∀ {C : Nat} (t' : StepT), OwnSEl w2 C t' → OwnSEl w3 C t' := fun t' h =>
          (h.below ((Below.refl w2.heap.size w2).alloc (Nat.le_refl _) (.cells x.cells.toArray 144)) (Nat.le_refl _)).far HRow.out HG3.out.by_
        refine ⟨⟨k + 1, ts ++ [x], (pStep t).2, by omega, by congr 1, by rw [List.length_append, HAl.out]; rfl, Nat.le_trans (pStep_le t) htl, ?_, ⟨?_, ?_⟩, eye_low HE2.out hb3 hgl, grown_below HG2.out hb3⟩, by show N - ((k : Int) + 1).toNat < N - (k : Int).toNat; omega⟩
        · have h := HLt.out
          rw [show N - k = (N - (k + 1)) + 1 by omega, pMany_succ pStep _ HBd.out.symm, ← HV2.out] at h
          rw [h, List.map_append, List.append_assoc]; rfl
        · rw [StepTC_snoc, List.length_append, HAl.out]; exact HO3.out
        · intro t' ht'
          rcases List.mem_append.1 ht' with h | h
          · exact hum t' (HO2.out.el t' h)
          · obtain rfl := List.mem_singleton.1 h; exact hum _ (HU2.out.less hzr)
    · obtain rfl : k = N := by omega
      clear he
      go_wp2_with fail
      go_ret
      have h := HLt.out
      rw [Nat.sub_self] at h
      injection h with h1 h2
      subst h1 h2
      exact ⟨_, ts, rfl, HO.out, by simp [pMany], HE.out, HG.out⟩
end Go.Proofs.Ytloglpamnalmeaa
