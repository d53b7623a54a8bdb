/- CONTRACT: wire.TakeCommit. -/
import Derived.Test.YtloglpamnalmeaaChkCommit
import Derived.Test.YtloglpamnalmeaaCommLaw
namespace Go.Proofs.Ytloglpamnalmeaa
open Go.RowKit
set_option linter.unusedVariables false
set_option linter.unusedSimpArgs false

set_option maxRecDepth 100000 in
theorem built_comm0 (G C : List (BitVec 8)) (ep frm : Int) (n : Nat) (A : Option Addr) (c : Nat) (hG : G.length = 32) (hC : C.length = 32) :
    Try.prog.built 82 [(0, .agg (G.map b8).toArray), (1, .int .i64 ep), (2, .int .i64 frm), (3, .agg (C.map b8).toArray), (4, .slice A n c)] = some (G.map b8 ++ (Value.int .i64 ep :: Value.int .i64 frm :: (C.map b8 ++ (Value.slice A n c :: (zPath.cells ++ (zero32.map b8 ++ zSig.map b8)))))).toArray := by
  obtain ⟨g0, g1, g2, g3, g4, g5, g6, g7, g8, g9, g10, g11, g12, g13, g14, g15, g16, g17, g18, g19, g20, g21, g22, g23, g24, g25, g26, g27, g28, g29, g30, g31, rfl⟩ := list32 hG
  obtain ⟨y0, y1, y2, y3, y4, y5, y6, y7, y8, y9, y10, y11, y12, y13, y14, y15, y16, y17, y18, y19, y20, y21, y22, y23, y24, y25, y26, y27, y28, y29, y30, y31, rfl⟩ := list32 hC
  kernel_rfl
theorem built_comm (G C : List (BitVec 8)) (ep frm : Int) (ts : List PropT) (A : Option Addr) (c : Nat) (hG : G.length = 32) (hC : C.length = 32) :
    Try.prog.built 82 [(0, .agg (G.map b8).toArray), (1, .int .i64 ep), (2, .int .i64 frm), (3, .agg (C.map b8).toArray), (4, .slice A ts.length c)] = some (commC ⟨G, ep, frm, C, ts, A, c, zPath, zero32, zSig⟩).toArray := built_comm0 G C ep frm ts.length A c hG hC
set_option maxRecDepth 100000 in
theorem built_path0 (u : Bool) (nm : Int) (k s p : List (BitVec 8)) (m : Nat) (hk : k.length = 32) (hs : s.length = 32) (hp : p.length = 32) (A : Option Addr) (c : Nat) (B : Option Addr) (n d : Nat) :
    Try.prog.built 80 [(0, .agg ((Value.bool u :: Value.int .i64 nm :: k.map b8) ++ (s.map b8 ++ (p.map b8 ++ [Value.slice A m c]))).toArray), (1, .slice B n d)] = some (((Value.bool u :: Value.int .i64 nm :: k.map b8) ++ (s.map b8 ++ (p.map b8 ++ [Value.slice A m c]))) ++ [Value.slice B n d]).toArray := by
  obtain ⟨k0, k1, k2, k3, k4, k5, k6, k7, k8, k9, k10, k11, k12, k13, k14, k15, k16, k17, k18, k19, k20, k21, k22, k23, k24, k25, k26, k27, k28, k29, k30, k31, rfl⟩ := list32 hk
  obtain ⟨s0, s1, s2, s3, s4, s5, s6, s7, s8, s9, s10, s11, s12, s13, s14, s15, s16, s17, s18, s19, s20, s21, s22, s23, s24, s25, s26, s27, s28, s29, s30, s31, rfl⟩ := list32 hs
  obtain ⟨p0, p1, p2, p3, p4, p5, p6, p7, p8, p9, p10, p11, p12, p13, p14, p15, p16, p17, p18, p19, p20, p21, p22, p23, p24, p25, p26, p27, p28, p29, p30, p31, rfl⟩ := list32 hp
  kernel_rfl
theorem built_path (x : NodeD) (hx : x.Ok) (A : Option Addr) (c : Nat) (B : Option Addr) (n d : Nat) :
    Try.prog.built 80 [(0, .agg (nodeC x A c).toArray), (1, .slice B n d)] = some (nodeC x A c ++ [Value.slice B n d]).toArray := built_path0 x.used x.name x.key x.sign x.par x.um.length hx.key hx.sign hx.par A c B n d
/-- a block of another type is no row of these -/
theorem rowS_blk {w : World} {B E K n : Nat} {v : Value} {us : List Value} {g : Nat} {T : TypeId} {cs : List Value} (h : w.ownsRow B E K v n us) (hb : Blk w g T cs) (hT : T ≠ E) : v.ownBlock ≠ some g := by
  rcases h.2 with ⟨rfl, _⟩ | ⟨g', cap, cur, rfl, _, hg, _⟩
  · simp [Value.ownBlock]
  · intro e
    obtain rfl : g' = g := by simpa [Value.ownBlock] using e
    have h2 : w.heap[g']? = some (.cells cs.toArray T (0, 0)) := hb
    rw [hg] at h2
    injection h2 with e2
    injection e2 with _ e3
    exact hT e3.symm
theorem OwnP.blk {w w' : World} {B : Nat} {v : Value} {ts : List PropT} (h : OwnP w B v ts) {g : Nat} {cs : List Value} (hb : Blk w g 82 cs) (hg : w.grownBy w' (some g)) : OwnP w' B v ts :=
  ⟨rowS_kept' h.row hg (fun k e e2 => by cases e; exact rowS_blk h.row hb (by decide) e2), fun t ht => ⟨(h.el t ht).ok, (h.el t ht).um.kept hg (.inr (rowS_blk (h.el t ht).um hb (by decide))), (h.el t ht).uml⟩⟩
theorem OwnS.blk {w w' : World} {B : Nat} {v : Value} {ts : List StepT} (h : OwnS w B v ts) {g : Nat} {cs : List Value} (hb : Blk w g 82 cs) (hg : w.grownBy w' (some g)) : OwnS w' B v ts :=
  ⟨rowS_kept' h.row hg (fun k e e2 => by cases e; exact rowS_blk h.row hb (by decide) e2), fun t ht => ⟨(h.el t ht).key, ⟨rowS_kept' (h.el t ht).rows.row hg (fun k e e2 => by cases e; exact rowS_blk (h.el t ht).rows.row hb (by decide) e2), fun r hr => ⟨((h.el t ht).rows.xs r hr).1.kept hg (.inr (rowS_blk ((h.el t ht).rows.xs r hr).1 hb (by decide))), ((h.el t ht).rows.xs r hr).2⟩⟩, (h.el t ht).len⟩⟩
theorem um_blk {w w' : World} {B : Nat} {v : Value} {zs : List Int} (h : Own cI w B 3 v zs) {g : Nat} {cs : List Value} (hb : Blk w g 82 cs) (hg : w.grownBy w' (some g)) : Own cI w' B 3 v zs := h.kept hg (.inr (rowS_blk h hb (by decide)))
/-- a commit that the call owns -/
structure OwnC (w : World) (B : Nat) (x : CommT) : Prop where
  grp : x.grp.length = 32
  base : x.base.length = 32
  tag : x.tag.length = 32
  sig : x.sig.length = 64
  ep : (Lit.int .i64 x.ep).wf = true
  frm : (Lit.int .i64 x.frm).wf = true
  props : OwnP w B (.slice x.Ap x.props.length x.cp) x.props
  plen : x.props.length ≤ 255
  leaf : x.path.leaf.Ok
  um : Own cI w B 3 (.slice x.path.A x.path.leaf.um.length x.path.c) x.path.leaf.um
  uml : x.path.leaf.um.length ≤ 300
  steps : OwnS w B (.slice x.path.As x.path.steps.length x.path.cs) x.path.steps
  slen : x.path.steps.length ≤ 255
theorem OwnC.kept {w w' : World} {B : Nat} {x : CommT} (h : OwnC w B x) {g : Nat} (hg : w.grownBy w' (some g)) (hlt : g < B) : OwnC w' B x :=
  ⟨h.grp, h.base, h.tag, h.sig, h.ep, h.frm, h.props.kept hg hlt, h.plen, h.leaf, h.um.kept hg (.inr (fun e => by have := h.um.lt _ e; omega)), h.uml, h.steps.kept hg hlt, h.slen⟩
theorem OwnC.below {w w' : World} {B C : Nat} {x : CommT} (h : OwnC w B x) (hb : Below C w w') (hC : w.heap.size ≤ C) : OwnC w' B x :=
  ⟨h.grp, h.base, h.tag, h.sig, h.ep, h.frm, h.props.below hb hC, h.plen, h.leaf, h.um.below hb hC, h.uml, h.steps.below hb hC, h.slen⟩
theorem OwnC.less {w : World} {B B' : Nat} {x : CommT} (h : OwnC w B x) (hB : B' ≤ B) : OwnC w B' x :=
  ⟨h.grp, h.base, h.tag, h.sig, h.ep, h.frm, h.props.less hB, h.plen, h.leaf, h.um.less hB, h.uml, h.steps.less hB, h.slen⟩
theorem OwnC.rd {w : World} {B : Nat} {x : CommT} (h : OwnC w B x) : RdC w w.heap.size x := by
  obtain ⟨A, c, e, hp⟩ := h.props.shape
  obtain ⟨A', c', e', hs⟩ := h.steps.shape
  injection e with e1 e2 e3
  injection e' with f1 f2 f3
  exact ⟨h.grp, h.base, h.tag, h.sig, h.ep, h.frm, by rw [e1]; exact hp, by have := h.plen; omega, ⟨h.leaf, h.um.rd, h.uml, by rw [f1]; exact hs, by have := h.slen; omega⟩⟩
set_option maxRecDepth 100000 in
set_option maxHeartbeats 4000000 in
theorem takeComm_any {w : World} {B' : Nat} {A : Option Addr} {n c : Nat} {bs : List (BitVec 8)} (hr : Rd b8 w B' A bs) (hB' : B' ≤ w.heap.size) (hn : bs.length = n) (hnc : n ≤ c) (hy : n ≤ 1000000) :
    Calls Try.prog 38 #[.slice A n c] w fun e w' => Below w.heap.size w w' ∧
      ((goodC bs = true ∧ ∃ x : CommT, e = .returned (.tuple #[.agg (commC x).toArray, .nilIface]) ∧ OwnC w' w.heap.size x ∧ x.v = cmV (bs, false)) ∨
       (goodC bs = false ∧ e = .returned (.tuple #[.agg zerosCommit.toArray, .iface 108 (.int .i64 3)]))) := by
  have HR := Lib.hid hr
  have HN := Lib.hid hn
  have hb0 : bs.length ≤ 1000000 := by rw [hn]; exact hy
  obtain ⟨s0, hs0⟩ : ∃ s0 : St, s0 = (bs, false) := ⟨_, rfl⟩
  rw [← hs0]
  have l0 : s0.1.length ≤ 1000000 := by rw [hs0]; exact hb0
  have l1 : (cmS1 s0).1.length ≤ 1000000 := by have := pTk_le 32 s0; unfold cmS1; omega
  have l2 : (cmS2 s0).1.length ≤ 1000000 := by have := pNum_le 4 (cmS1 s0); unfold cmS2; omega
  have l3 : (cmS3 s0).1.length ≤ 1000000 := by have := pNum_le 1 (cmS2 s0); unfold cmS3; omega
  have l4 : (cmS4 s0).1.length ≤ 1000000 := by have := pTk_le 32 (cmS3 s0); unfold cmS4; omega
  have l5 : (cmS5 s0).1.length ≤ 1000000 := by have := pList_le pProp pProp_le (cmS4 s0); unfold cmS5; omega
  have l6 : (cmS6 s0).1.length ≤ 1000000 := by have := pNode_le (cmS5 s0); unfold cmS6; omega
  have l7 : (cmS7 s0).1.length ≤ 1000000 := by have := pList_le pStep pStep_le (cmS6 s0); unfold cmS7; omega
  have l8 : (cmS8 s0).1.length ≤ 1000000 := by have := pTk_le 32 (cmS7 s0); unfold cmS8; omega
  obtain ⟨q, hq⟩ : ∃ q, q = goodC bs := ⟨_, rfl⟩
  rw [← hq]
  have hqq : q = chkGood (cmS9 s0).2 (cmS9 s0).1 bs (commBadX (cmV s0) || decide (65536 < (commBX (cmV s0)).length)) (commBX (cmV s0)) := by rw [hq, hs0]; rfl
  obtain ⟨V, hV⟩ : ∃ V, V = cmV s0 := ⟨_, rfl⟩
  obtain ⟨s1, hs1⟩ : ∃ s, s = cmS1 s0 := ⟨_, rfl⟩
  obtain ⟨s2, hs2⟩ : ∃ s, s = cmS2 s0 := ⟨_, rfl⟩
  obtain ⟨s3, hs3⟩ : ∃ s, s = cmS3 s0 := ⟨_, rfl⟩
  obtain ⟨s4, hs4⟩ : ∃ s, s = cmS4 s0 := ⟨_, rfl⟩
  obtain ⟨s5, hs5⟩ : ∃ s, s = cmS5 s0 := ⟨_, rfl⟩
  obtain ⟨s6, hs6⟩ : ∃ s, s = cmS6 s0 := ⟨_, rfl⟩
  obtain ⟨s7, hs7⟩ : ∃ s, s = cmS7 s0 := ⟨_, rfl⟩
  obtain ⟨s8, hs8⟩ : ∃ s, s = cmS8 s0 := ⟨_, rfl⟩
  obtain ⟨s9, hs9⟩ : ∃ s, s = cmS9 s0 := ⟨_, rfl⟩
  rw [← hV, ← hs9] at hqq
  rw [← hV]
  rw [← hs1] at l1
  rw [← hs2] at l2
  rw [← hs3] at l3
  rw [← hs4] at l4
  rw [← hs5] at l5
  rw [← hs6] at l6
  rw [← hs7] at l7
  rw [← hs8] at l8
  have v1 : (pTk 32 s0).1 = V.grp := by rw [hV, cmV_grp]
  have v2 : ((pNum 4 s1).1 : Int) = V.ep := by rw [hV, cmV_ep, hs1]
  have v3 : ((pNum 1 s2).1 : Int) = V.frm := by rw [hV, cmV_frm, hs2]
  have v4 : (pTk 32 s3).1 = V.base := by rw [hV, cmV_base, hs3]
  have v5 : (pList pProp s4).1 = V.props := by rw [hV, cmV_props, hs4]
  have v6 : (pNode s5).1 = V.leaf := by rw [hV, cmV_leaf, hs5]
  have v7 : (pList pStep s6).1 = V.steps := by rw [hV, cmV_steps, hs6]
  have v8 : (pTk 32 s7).1 = V.tag := by rw [hV, cmV_tag, hs7]
  have v9 : (pTk 64 s8).1 = V.sig := by rw [hV, cmV_sig, hs8]
  have u1 : (pTk 32 s0).2 = s1 := by rw [hs1, cmS1]
  have u2 : (pNum 4 s1).2 = s2 := by rw [hs2, cmS2, hs1]
  have u3 : (pNum 1 s2).2 = s3 := by rw [hs3, cmS3, hs2]
  have u4 : (pTk 32 s3).2 = s4 := by rw [hs4, cmS4, hs3]
  have u5 : (pList pProp s4).2 = s5 := by rw [hs5, cmS5, hs4]
  have u6 : (pNode s5).2 = s6 := by rw [hs6, cmS6, hs5]
  have u7 : (pList pStep s6).2 = s7 := by rw [hs7, cmS7, hs6]
  have u8 : (pTk 32 s7).2 = s8 := by rw [hs8, cmS8, hs7]
  have u9 : (pTk 64 s8).2 = s9 := by rw [hs9, cmS9, hs8]
  have hN6 : pNode s5 = (V.leaf, s6) := by rw [← v6, ← u6]
  have g1 : V.grp.length = 32 := by rw [← v1]; exact pTk_len _ _
  have g4 : V.base.length = 32 := by rw [← v4]; exact pTk_len _ _
  have g6 : V.leaf.Ok := by rw [← v6]; exact pNode_ok _
  have g6u : V.leaf.um.length ≤ 300 := by rw [← v6]; have := pNode_um s5; omega
  have g8 : V.tag.length = 32 := by rw [← v8]; exact pTk_len _ _
  have g9 : V.sig.length = 64 := by rw [← v9]; exact pTk_len _ _
  have w2' : (Lit.int .i64 V.ep).wf = true := by
    rw [← v2]
    have h : (pNum 4 s1).1 < 256 ^ 4 := beVal_lt 4 _ (tkO_len _ _)
    generalize (pNum 4 s1).1 = n at h ⊢
    exact wf_small (by omega)
  have w3' : (Lit.int .i64 V.frm).wf = true := by
    rw [← v3]
    have h := pNum1_lt s2
    generalize (pNum 1 s2).1 = n at h ⊢
    exact wf_small (by omega)
  have hL5 := pList_len pProp s4
  have hL7 := pList_len pStep s6
  rw [v5] at hL5
  rw [v7] at hL7
  have C1 := Lib.hid (fun (W : World) (h : EyeS W w.heap.size (w.heap.size + 1) s0) => (show Calls Try.prog 59 #[.pointer (some ⟨w.heap.size + 1, 0, none⟩)] W fun e w' => e = .returned (.agg (V.grp.map b8).toArray) ∧ EyeS w' w.heap.size (w.heap.size + 1) s1 ∧ W.grownBy w' (some (w.heap.size + 1)) by rw [← arrV_mk, ← v1, ← u1]; exact sumS_any h (by omega)))
  have C2 := Lib.hid (fun (W : World) (h : EyeS W w.heap.size (w.heap.size + 1) s1) => (show Calls Try.prog 60 #[.pointer (some ⟨w.heap.size + 1, 0, none⟩), .int .i64 4] W fun e w' => e = .returned (.int .i64 V.ep) ∧ EyeS w' w.heap.size (w.heap.size + 1) s2 ∧ W.grownBy w' (some (w.heap.size + 1)) by rw [← v2, ← u2]; exact numS_any h 4 4 rfl (by omega) (by omega)))
  have C3 := Lib.hid (fun (W : World) (h : EyeS W w.heap.size (w.heap.size + 1) s2) => (show Calls Try.prog 60 #[.pointer (some ⟨w.heap.size + 1, 0, none⟩), .int .i64 1] W fun e w' => e = .returned (.int .i64 V.frm) ∧ EyeS w' w.heap.size (w.heap.size + 1) s3 ∧ W.grownBy w' (some (w.heap.size + 1)) by rw [← v3, ← u3]; exact numS_any h 1 1 rfl (by omega) (by omega)))
  have C4 := Lib.hid (fun (W : World) (h : EyeS W w.heap.size (w.heap.size + 1) s3) => (show Calls Try.prog 59 #[.pointer (some ⟨w.heap.size + 1, 0, none⟩)] W fun e w' => e = .returned (.agg (V.base.map b8).toArray) ∧ EyeS w' w.heap.size (w.heap.size + 1) s4 ∧ W.grownBy w' (some (w.heap.size + 1)) by rw [← arrV_mk, ← v4, ← u4]; exact sumS_any h (by omega)))
  have C5 := Lib.hid (fun (W : World) (h : EyeS W w.heap.size (w.heap.size + 1) s4) => (show Calls Try.prog 86 #[.pointer (some ⟨w.heap.size + 1, 0, none⟩), .func (.func 81) #[] #[]] W fun e w' => ∃ v ts, e = .returned v ∧ OwnP w' W.heap.size v ts ∧ ts.map PropT.v = V.props ∧ EyeS w' w.heap.size (w.heap.size + 1) s5 ∧ W.grownBy w' (some (w.heap.size + 1)) by rw [← v5, ← u5]; exact manyProp_any h (by omega)))
  have C7 := Lib.hid (fun (W : World) (h : EyeS W w.heap.size (w.heap.size + 1) s6) => (show Calls Try.prog 87 #[.pointer (some ⟨w.heap.size + 1, 0, none⟩), .func (.func 88) #[] #[]] W fun e w' => ∃ v ts, e = .returned v ∧ OwnS w' W.heap.size v ts ∧ ts.map StepT.v = V.steps ∧ EyeS w' w.heap.size (w.heap.size + 1) s7 ∧ W.grownBy w' (some (w.heap.size + 1)) by rw [← v7, ← u7]; exact manyStep_any h (by omega)))
  have C8 := Lib.hid (fun (W : World) (h : EyeS W w.heap.size (w.heap.size + 1) s7) => (show Calls Try.prog 59 #[.pointer (some ⟨w.heap.size + 1, 0, none⟩)] W fun e w' => e = .returned (.agg (V.tag.map b8).toArray) ∧ EyeS w' w.heap.size (w.heap.size + 1) s8 ∧ W.grownBy w' (some (w.heap.size + 1)) by rw [← arrV_mk, ← v8, ← u8]; exact sumS_any h (by omega)))
  have C9 := Lib.hid (fun (W : World) (h : EyeS W w.heap.size (w.heap.size + 1) s8) => (show Calls Try.prog 75 #[.pointer (some ⟨w.heap.size + 1, 0, none⟩)] W fun e w' => e = .returned (.agg (V.sig.map b8).toArray) ∧ EyeS w' w.heap.size (w.heap.size + 1) s9 ∧ W.grownBy w' (some (w.heap.size + 1)) by rw [← arrV_mk, ← v9, ← u9]; exact wideS_any h (by omega)))
  have HQ := Lib.hid hqq
  have HN6 := Lib.hid hN6
  have G1 := Lib.hid g1
  have G4 := Lib.hid g4
  have G6 := Lib.hid g6
  have G8 := Lib.hid g8
  have G9 := Lib.hid g9
  have WE := Lib.hid w2'
  have WF := Lib.hid w3'
  have HF := Lib.hid (show ∀ W1, (w.alloc (.cells zerosCommit.toArray 82)).alloc (.cells #[.slice A n c, .bool false] 121) = W1 →
      Blk W1 w.heap.size 82 zerosCommit ∧ EyeS W1 w.heap.size (w.heap.size + 1) s0 ∧ Below w.heap.size w W1 ∧ w.heap.size + 2 ≤ W1.heap.size by
    rintro W1 rfl
    have hb : Below w.heap.size w ((w.alloc (.cells zerosCommit.toArray 82)).alloc (.cells #[.slice A n c, .bool false] 121)) := ((Below.refl _ _).alloc (Nat.le_refl _) _).alloc (by simp) _
    refine ⟨Blk.alloc (Blk.new w _ _) _, ⟨⟨A, c, ?_, ?_, by rw [hs0, HN.out]; exact hnc⟩, by omega⟩, hb, by simp⟩
    · rw [hs0, HN.out]
      exact Blk.at_size _ [.slice A n c, .bool false] (by simp)
    · rw [hs0]; exact (HR.out.below (hb.mono hB')).more hB')
  clear hr hn hb0 hs0 hq hqq hs1 hs2 hs3 hs4 hs5 hs6 hs7 hs8 hs9 hV v1 v2 v3 v4 v5 v6 v7 v8 v9 u1 u2 u3 u4 u5 u6 u7 u8 u9 hN6 g1 g4 g6 g8 g9 w2' w3' l0 l1 l2 l3 l4 l6 l7 l8
  go_enter Try.func38, Try.ntmps38
  go_wp2_with fail
  generalize hW1 : World.alloc (World.alloc w _) _ = W1
  obtain ⟨hp1, he1, hb1, hq1⟩ := HF.out W1 hW1
  clear hW1 HF
  have HP1 := Lib.hid hp1
  have HE1 := Lib.hid he1
  have HB1 := Lib.hid hb1
  clear hp1 he1 hb1
  refine (C1.out _ HE1.out).mono ?_
  rintro e w2 ⟨rfl, he2, hg2⟩
  have HE2 := Lib.hid he2
  have HP2 := Lib.hid (HP1.out.grown hg2 (by intro e; have := Option.some.inj e; omega))
  have HB2 := Lib.hid (HB1.out.trans (below_grown hg2 (by omega) (by omega)) : Below w.heap.size w w2)
  have hq2 := Nat.le_trans hq1 hg2.size
  clear HE1 HP1 HB1 C1 he2 hg2
  go_wp2_with fail
  refine (C2.out _ HE2.out).mono ?_
  rintro e w3 ⟨rfl, he3, hg3⟩
  have HE3 := Lib.hid he3
  have HP3 := Lib.hid (HP2.out.grown hg3 (by intro e; have := Option.some.inj e; omega))
  have HB3 := Lib.hid (HB2.out.trans (below_grown hg3 (by omega) (by omega)) : Below w.heap.size w w3)
  have hq3 := Nat.le_trans hq2 hg3.size
  clear HE2 HP2 HB2 C2 he3 hg3
  go_wp2_with fail
  refine (C3.out _ HE3.out).mono ?_
  rintro e w4 ⟨rfl, he4, hg4⟩
  have HE4 := Lib.hid he4
  have HP4 := Lib.hid (HP3.out.grown hg4 (by intro e; have := Option.some.inj e; omega))
  have HB4 := Lib.hid (HB3.out.trans (below_grown hg4 (by omega) (by omega)) : Below w.heap.size w w4)
  have hq4 := Nat.le_trans hq3 hg4.size
  clear HE3 HP3 HB3 C3 he4 hg4
  go_wp2_with fail
  refine (C4.out _ HE4.out).mono ?_
  rintro e w5 ⟨rfl, he5, hg5⟩
  have HE5 := Lib.hid he5
  have HP5 := Lib.hid (HP4.out.grown hg5 (by intro e; have := Option.some.inj e; omega))
  have HB5 := Lib.hid (HB4.out.trans (below_grown hg5 (by omega) (by omega)) : Below w.heap.size w w5)
  have hq5 := Nat.le_trans hq4 hg5.size
  clear HE4 HP4 HB4 C4 he5 hg5
  go_wp2_with fail
  refine (C5.out _ HE5.out).mono ?_
  rintro e w6 ⟨v6, ts, rfl, ho6, hx6, he6, hg6⟩
  have HE6 := Lib.hid he6
  have HP6 := Lib.hid (HP5.out.grown hg6 (by intro e; have := Option.some.inj e; omega))
  have HB6 := Lib.hid (HB5.out.trans (below_grown hg6 (by omega) (by omega)) : Below w.heap.size w w6)
  have hq6 := Nat.le_trans hq5 hg6.size
  obtain ⟨A6, c6, rfl, -⟩ := ho6.shape
  have HO6 := Lib.hid (ho6.less (show w.heap.size + 2 ≤ w5.heap.size from hq5))
  have HX6 := Lib.hid hx6
  have htl : ts.length ≤ 255 := by rw [← List.length_map (f := PropT.v), hx6]; exact hL5
  clear ho6 hx6 he6 hg6 HE5 HP5 HB5 C5
  have HBu := Lib.hid (built_comm V.grp V.base V.ep V.frm ts A6 c6 G1.out G4.out)
  have HXl := Lib.hid (show (commC ⟨V.grp, V.ep, V.frm, V.base, ts, A6, c6, zPath, zero32, zSig⟩).length = 263 from commC_len ⟨G1.out, G4.out, zero32_len, by simp [zSig], zNode_ok⟩)
  go_wp2_with (first
    | (refine wpList_build_at rfl 82 [(0, .tmp 10), (1, .tmp 12), (2, .tmp 14), (3, .tmp 16), (4, .tmp 18)] rfl _ _ rfl HBu.out ?_)
    | (refine wpList_store_blk rfl 82 _ _ rfl w6.heap.size rfl (commC ⟨V.grp, V.ep, V.frm, V.base, ts, A6, c6, zPath, zero32, zSig⟩) rfl _ _ (Blk.new w6 82 zerosCommit) (by rw [zerosCommit_len, HXl.out]) (by rw [HXl.out]; exact infoComm) (commC_one _) ?_; intro w7 hp7 hg7; have HX7 := Lib.hid hp7; have HG7' := Lib.hid hg7; clear hp7 hg7))
  have hb7 : Below w6.heap.size w6 w7 := below_box HG7'.out
  have hgk : w.heap.size + 1 < w6.heap.size := by omega
  have HE7 := Lib.hid (show EyeS w7 w.heap.size (w.heap.size + 1) s5 from HE6.out.below hb7 (Nat.le_refl _))
  have HP7 := Lib.hid (HP6.out.below hb7 (by omega))
  have HB7 := Lib.hid (HB6.out.trans (hb7.mono (by omega)))
  have HO7 := Lib.hid (HO6.out.below hb7 (Nat.le_refl _))
  have hk7 : w6.heap.size + 1 ≤ w7.heap.size := by have := HG7'.out.size; simpa using this
  clear hb7 HG7' HE6 HP6 HB6 HO6 HBu
  refine (readNodeV HE7.out (by omega) HN6.out).mono ?_
  rintro e w8 ⟨A8, c8, rfl, ho8, he8, hg8⟩
  have HE8 := Lib.hid he8
  have HX8 := Lib.hid (HX7.out.grown hg8 (by intro e; have := Option.some.inj e; omega))
  have HP8 := Lib.hid (HP7.out.grown hg8 (by intro e; have := Option.some.inj e; omega))
  have HB8 := Lib.hid (HB7.out.trans (below_grown hg8 (by omega) (by omega)) : Below w.heap.size w w8)
  have hk8 := Nat.le_trans hk7 hg8.size
  have HO8 := Lib.hid (HO7.out.kept hg8 (by omega))
  have HU8 := Lib.hid (ho8.less (show w.heap.size + 2 ≤ w7.heap.size by omega))
  clear ho8 he8 hg8 HE7 HX7 HP7 HB7 HO7
  go_wp2_with fail
  refine (C7.out _ HE8.out).mono ?_
  rintro e w9 ⟨v9, ss, rfl, ho9, hx9, he9, hg9⟩
  have HE9 := Lib.hid he9
  have HX9 := Lib.hid (HX8.out.grown hg9 (by intro e; have := Option.some.inj e; omega))
  have HP9 := Lib.hid (HP8.out.grown hg9 (by intro e; have := Option.some.inj e; omega))
  have HB9 := Lib.hid (HB8.out.trans (below_grown hg9 (by omega) (by omega)) : Below w.heap.size w w9)
  have hk9 := Nat.le_trans hk8 hg9.size
  obtain ⟨A9, c9, rfl, -⟩ := ho9.shape
  have HO9 := Lib.hid (HO8.out.kept hg9 (by omega))
  have HU9 := Lib.hid (HU8.out.kept hg9 (.inr (fun e => by have := HU8.out.lt _ e; omega)))
  have HS9 := Lib.hid (ho9.less (show w.heap.size + 2 ≤ w8.heap.size by omega))
  have HX9s := Lib.hid hx9
  have hsl : ss.length ≤ 255 := by rw [← List.length_map (f := StepT.v), hx9]; exact hL7
  clear ho9 hx9 he9 hg9 HE8 HX8 HP8 HB8 HO8 HU8 C7
  obtain ⟨m, hm⟩ : ∃ m, m = ss.length := ⟨_, rfl⟩
  have HM := Lib.hid hm
  rw [← hm]
  clear hm
  have HBp := Lib.hid (built_path V.leaf G6.out A8 c8 A9 m c9)
  have HPl := Lib.hid (show (nodeC V.leaf A8 c8 ++ [Value.slice A9 m c9]).length = 100 by simp [nodeC_len G6.out])
  go_wp2_with (first
    | (refine wpList_build_at rfl 80 [(0, .tmp 21), (1, .tmp 23)] rfl _ _ rfl HBp.out ?_)
    | (refine wpList_store_piece rfl 80 _ _ rfl w6.heap.size 67 rfl (nodeC V.leaf A8 c8 ++ [Value.slice A9 m c9]) rfl 82 _ (V.grp.map b8 ++ (.int .i64 V.ep :: .int .i64 V.frm :: (V.base.map b8 ++ [.slice A6 ts.length c6]))) zPath.cells (zero32.map b8 ++ zSig.map b8) HX9.out (by simp [commC]) (by simp [G1.out, G4.out]) (by rw [HPl.out]; exact pathC_len zNode_ok) (by rw [HPl.out]; exact infoPath) (by intro u hu; rcases List.mem_append.1 hu with h | h; exact nodeC_one _ _ _ u h; rw [List.mem_singleton.1 h]; rfl) ?_; intro w10 hp10 hg10; have HX10 := Lib.hid hp10; have HG10 := Lib.hid hg10; clear hp10 hg10))
  have HE10 := Lib.hid (show EyeS w10 w.heap.size (w.heap.size + 1) s7 from eye_grown HE9.out HG10.out (by omega) (by omega))
  have HP10 := Lib.hid (HP9.out.grown HG10.out (by intro e; have := Option.some.inj e; omega))
  have HB10 := Lib.hid (HB9.out.grown HG10.out (by omega) (fun k e => by cases e; omega))
  have HO10 := Lib.hid (HO9.out.blk HX9.out HG10.out)
  have HU10 := Lib.hid (um_blk HU9.out HX9.out HG10.out)
  have HS10 := Lib.hid (HS9.out.blk HX9.out HG10.out)
  have hk10 := Nat.le_trans hk9 HG10.out.size
  clear HG10 HE9 HX9 HP9 HB9 HO9 HU9 HS9 HBp HPl
  refine (C8.out _ HE10.out).mono ?_
  rintro e w11 ⟨rfl, he11, hg11⟩
  have HE11 := Lib.hid he11
  have HX11 := Lib.hid (HX10.out.grown hg11 (by intro e; have := Option.some.inj e; omega))
  have HP11 := Lib.hid (HP10.out.grown hg11 (by intro e; have := Option.some.inj e; omega))
  have HB11 := Lib.hid (HB10.out.trans (below_grown hg11 (by omega) (by omega)) : Below w.heap.size w w11)
  have hk11 := Nat.le_trans hk10 hg11.size
  have HO11 := Lib.hid (HO10.out.kept hg11 (by omega))
  have HU11 := Lib.hid (HU10.out.kept hg11 (.inr (fun e => by have := HU10.out.lt _ e; omega)))
  have HS11 := Lib.hid (HS10.out.kept hg11 (by omega))
  clear he11 hg11 HE10 HX10 HP10 HB10 HO10 HU10 HS10 C8
  go_wp2_with fail
  refine (C9.out _ HE11.out).mono ?_
  rintro e w12 ⟨rfl, he12, hg12⟩
  have HE12 := Lib.hid he12
  have HX12 := Lib.hid (HX11.out.grown hg12 (by intro e; have := Option.some.inj e; omega))
  have HP12 := Lib.hid (HP11.out.grown hg12 (by intro e; have := Option.some.inj e; omega))
  have HB12 := Lib.hid (HB11.out.trans (below_grown hg12 (by omega) (by omega)) : Below w.heap.size w w12)
  have hk12 := Nat.le_trans hk11 hg12.size
  have HO12 := Lib.hid (HO11.out.kept hg12 (by omega))
  have HU12 := Lib.hid (HU11.out.kept hg12 (.inr (fun e => by have := HU11.out.lt _ e; omega)))
  have HS12 := Lib.hid (HS11.out.kept hg12 (by omega))
  clear he12 hg12 HE11 HX11 HP11 HB11 HO11 HU11 HS11 C9
  obtain ⟨T, hT⟩ : ∃ T : CommT, T = ⟨V.grp, V.ep, V.frm, V.base, ts, A6, c6, ⟨V.leaf, A8, c8, ss, A9, c9⟩, V.tag, V.sig⟩ := ⟨_, rfl⟩
  have hTl : T.Len := by rw [hT]; exact ⟨G1.out, G4.out, G8.out, G9.out, G6.out⟩
  have HTl := Lib.hid (commC_len hTl)
  have HT := Lib.hid hT
  have HTc := Lib.hid (show (V.grp.map b8 ++ (Value.int .i64 V.ep :: Value.int .i64 V.frm :: (V.base.map b8 ++ (Value.slice A6 ts.length c6 :: ((nodeC V.leaf A8 c8 ++ [Value.slice A9 m c9]) ++ V.tag.map b8))))) ++ (V.sig.map b8 ++ []) = commC T by rw [hT, HM.out]; simp [commC, PathT.cells])
  clear hT hTl
  go_wp2_with (first
    | (refine wpList_store_piece rfl 23 _ _ rfl w6.heap.size 167 rfl (V.tag.map b8) rfl 82 _ (V.grp.map b8 ++ (Value.int .i64 V.ep :: Value.int .i64 V.frm :: (V.base.map b8 ++ (Value.slice A6 ts.length c6 :: (nodeC V.leaf A8 c8 ++ [Value.slice A9 m c9]))))) (zero32.map b8) (zSig.map b8) HX12.out (by simp) (by simp [G1.out, G4.out, nodeC_len G6.out]) (by rw [List.length_map, List.length_map, G8.out, zero32_len]) (by rw [List.length_map, G8.out]; exact infoSum) (b8s_one _) ?_; intro w13 hp13 hg13; have HX13 := Lib.hid hp13; have HG13 := Lib.hid hg13; clear hp13 hg13)
    | (refine wpList_store_piece rfl 62 _ _ rfl w6.heap.size 199 rfl (V.sig.map b8) rfl 82 _ (V.grp.map b8 ++ (Value.int .i64 V.ep :: Value.int .i64 V.frm :: (V.base.map b8 ++ (Value.slice A6 ts.length c6 :: ((nodeC V.leaf A8 c8 ++ [Value.slice A9 m c9]) ++ V.tag.map b8))))) (zSig.map b8) [] HX13.out (by simp) (by simp [G1.out, G4.out, G8.out, nodeC_len G6.out]) (by rw [List.length_map, List.length_map, G9.out]; rfl) (by rw [List.length_map, G9.out]; exact infoWideS) (b8s_one _) ?_; intro w14 hp14 hg14; have HX14 := Lib.hid (hp14.cast HTc.out); have HG14 := Lib.hid hg14; clear hp14 hg14)
    | (refine wpList_load_mid rfl 82 (.tmp 5) rfl w6.heap.size 0 rfl (commC T) _ (Blk.whole HX14.out) Try.underlying82 rfl (by rw [HTl.out]; exact infoComm) ?_))
  have hg2 := grownBy_trans HG13.out HG14.out (fun _ e => .inl e)
  have HE14 := Lib.hid (show EyeS w14 w.heap.size (w.heap.size + 1) s9 from eye_grown HE12.out hg2 (by omega) (by omega))
  have HP14 := Lib.hid (HP12.out.grown hg2 (by intro e; have := Option.some.inj e; omega))
  have HB14 := Lib.hid (HB12.out.grown hg2 (by omega) (fun k e => by cases e; omega))
  have HOT := Lib.hid (show OwnC w14 (w.heap.size + 2) T by
    rw [HT.out]
    exact ⟨G1.out, G4.out, G8.out, G9.out, WE.out, WF.out, HO12.out.blk HX12.out hg2, htl, G6.out, um_blk HU12.out HX12.out hg2, g6u, HS12.out.blk HX12.out hg2, hsl⟩)
  have HTv := Lib.hid (show T.v = V by rw [HT.out]; unfold CommT.v; rw [HX6.out, HX9s.out])
  have hk14 := Nat.le_trans hk12 hg2.size
  clear hg2 HG13 HG14 HX13 HE12 HX12 HP12 HB12 HO12 HU12 HS12
  have hck := checkCommit_any (c0 := c) HE14.out (HR.out.below (HB14.out.mono hB')) (by omega) HN.out hy (commC T) HTl.out (commC_one _) (commBX V) (commBadX V || decide (65536 < (commBX V).length))
    (fun W3 hb => by
      have h := putComm_any T (HOT.out.rd.below hb) hb.size
      rw [commBad_X, commB_X, HTv.out] at h
      exact h)
  rw [← HQ.out] at hck
  have HCk := Lib.hid hck
  clear hck HE14
  cases q with
  | true =>
    rw [if_pos rfl] at HCk
    refine HCk.out.mono ?_
    rintro e w15 ⟨rfl, hb15⟩
    have hz15 : w14.heap.size ≤ w15.heap.size := hb15.size
    have HP15 := Lib.hid (HP14.out.below hb15 (by omega))
    have HB15 := Lib.hid (HB14.out.trans (hb15.mono (by omega)))
    have HO15 := Lib.hid (HOT.out.below hb15 (Nat.le_refl _))
    clear hb15
    go_wp2_with (refine wpList_store_blk rfl 82 _ _ rfl w.heap.size rfl (commC T) rfl _ _ HP15.out (by rw [zerosCommit_len, HTl.out]) (by rw [HTl.out]; exact infoComm) (commC_one _) ?_; intro w16 hp16 hg16; have HP16 := Lib.hid hp16; have HG16 := Lib.hid hg16; clear hp16 hg16)
    refine bodyPost_ret (v := .tuple #[.agg (commC T).toArray, .nilIface]) (results_blk_tmp (g := w.heap.size) rfl _ _ _ _ _ _ rfl rfl HP16.out Try.underlying82 rfl (by rw [HTl.out]; exact infoComm)) rfl ?_
    exact ⟨HB15.out.grown HG16.out (by omega) (fun k e => by cases e; omega), T, rfl, (HO15.out.kept HG16.out (by omega)).less (by omega), HTv.out⟩
  | false =>
    rw [if_neg (by simp)] at HCk
    refine HCk.out.mono ?_
    rintro e w15 ⟨rfl, hb15⟩
    have hz15 : w14.heap.size ≤ w15.heap.size := hb15.size
    have HP15 := Lib.hid (HP14.out.below hb15 (by omega))
    have HB15 := Lib.hid (HB14.out.trans (hb15.mono (by omega)))
    have HO15 := Lib.hid (HOT.out.below hb15 (Nat.le_refl _))
    clear hb15
    go_wp2_with (refine wpList_store_blk rfl 82 _ _ rfl w.heap.size rfl zerosCommit rfl _ _ HP15.out rfl (by rw [zerosCommit_len]; exact infoComm) zerosCommit_one ?_; intro w16 hp16 hg16; have HP16 := Lib.hid hp16; have HG16 := Lib.hid hg16; clear hp16 hg16)
    refine bodyPost_ret (v := .tuple #[.agg zerosCommit.toArray, .iface 108 (.int .i64 3)]) (results_blk_tmp (g := w.heap.size) rfl _ _ _ _ _ _ rfl rfl HP16.out Try.underlying82 rfl (by rw [zerosCommit_len]; exact infoComm)) rfl ?_
    exact ⟨HB15.out.grown HG16.out (by omega) (fun k e => by cases e; omega), rfl⟩
end Go.Proofs.Ytloglpamnalmeaa
