/- PLAIN LAW: a proposal that is put is read back. -/
import Derived.Test.YtloglpamnalmeaaInfLaw
import Derived.Test.YtloglpamnalmeaaPropD
namespace Go.Proofs.Ytloglpamnalmeaa
open Go.RowKit
set_option linter.unusedVariables false
set_option linter.unusedSimpArgs false

def prS1 (s : St) : St := (pTk 32 s).2
def prS2 (s : St) : St := (pNum 4 (prS1 s)).2
def prS3 (s : St) : St := (pNum 1 (prS2 s)).2
def prS4 (s : St) : St := (pTk 32 (prS3 s)).2
def prS5 (s : St) : St := (pNum 1 (prS4 s)).2
def prK (s : St) : Nat := (pNum 1 (prS4 s)).1
def prLeaf (k : Nat) (s : St) : NodeD × St := if k = 1 ∨ k = 2 then pNode s else (zNode, s)
def prStart (k : Nat) (s : St) : List (BitVec 8) × St := if k = 1 then pTk 32 s else (zero32, s)
def prAt (k : Nat) (s : St) : Nat × St := if k = 3 then pNum 1 s else (0, s)
def prS6 (s : St) : St := (prLeaf (prK s) (prS5 s)).2
def prS7 (s : St) : St := (prStart (prK s) (prS6 s)).2
def prS8 (s : St) : St := (prAt (prK s) (prS7 s)).2
def prS9 (s : St) : St := (pTk 64 (prS8 s)).2
def prV (s : St) : PropD := ⟨(pTk 32 s).1, ((pNum 4 (prS1 s)).1 : Int), ((pNum 1 (prS2 s)).1 : Int), (pTk 32 (prS3 s)).1, (prK s : Int), (prLeaf (prK s) (prS5 s)).1, (prStart (prK s) (prS6 s)).1, ((prAt (prK s) (prS7 s)).1 : Int), (pTk 64 (prS8 s)).1⟩
def pProp (s : St) : PropD × St := (prV s, prS9 s)
theorem zeroN_eq {x : NodeD} (h : zeroN x = true) : x = zNode := by
  unfold zeroN at h
  simp only [Bool.and_eq_true, Bool.not_eq_true', beq_iff_eq, List.length_eq_zero_iff] at h
  obtain ⟨⟨⟨⟨⟨h1, h2⟩, h3⟩, h4⟩, h5⟩, h6⟩ := h
  obtain ⟨u, nm, k, s, p, um⟩ := x
  simp only at h1 h2 h3 h4 h5 h6
  subst h1 h2 h3 h4 h5 h6
  rfl
theorem pProp_put {x : PropD} (hx : x.Ok) (hb : propBad x = false) (r : List (BitVec 8)) : pProp (propB x ++ r, false) = (x, (r, false)) := by
  unfold propBad at hb
  rw [Bool.or_eq_false_iff, Bool.or_eq_false_iff] at hb
  obtain ⟨⟨h1, h2⟩, h3⟩ := hb
  obtain ⟨E, hE, hEl⟩ := outOf_int h1
  obtain ⟨F, hF, hFl⟩ := outOf_int h2
  have e : propB x ++ r = x.grp ++ (be x.ep 4 ++ (be x.frm 1 ++ (x.base ++ (be x.kind 1 ++ (midB x ++ (x.sig ++ r)))))) := by unfold propB groupB; simp only [List.append_assoc]
  rw [e]
  have e1 : pTk 32 (x.grp ++ (be x.ep 4 ++ (be x.frm 1 ++ (x.base ++ (be x.kind 1 ++ (midB x ++ (x.sig ++ r)))))), false) = (x.grp, (be x.ep 4 ++ (be x.frm 1 ++ (x.base ++ (be x.kind 1 ++ (midB x ++ (x.sig ++ r))))), false)) := pTk_app hx.grp _ _
  generalize x.grp ++ (be x.ep 4 ++ (be x.frm 1 ++ (x.base ++ (be x.kind 1 ++ (midB x ++ (x.sig ++ r)))))) = S at e1 ⊢
  have e2 : pNum 4 (prS1 (S, false)) = (E, (be x.frm 1 ++ (x.base ++ (be x.kind 1 ++ (midB x ++ (x.sig ++ r)))), false)) := by
    unfold prS1; rw [e1, hE]; exact pNum_app (show E < 256 ^ 4 by omega) _ _
  have e3 : pNum 1 (prS2 (S, false)) = (F, (x.base ++ (be x.kind 1 ++ (midB x ++ (x.sig ++ r))), false)) := by
    unfold prS2; rw [e2, hF]; exact pNum_app (show F < 256 ^ 1 by omega) _ _
  have e4 : pTk 32 (prS3 (S, false)) = (x.base, (be x.kind 1 ++ (midB x ++ (x.sig ++ r)), false)) := by
    unfold prS3; rw [e3]; exact pTk_app hx.base _ _
  have fin : ∀ K : Nat, x.kind = (K : Int) → K < 256 → prLeaf K (midB x ++ (x.sig ++ r), false) = (x.leaf, (prLeaf K (midB x ++ (x.sig ++ r), false)).2) →
      prStart K (prLeaf K (midB x ++ (x.sig ++ r), false)).2 = (x.start, (prStart K (prLeaf K (midB x ++ (x.sig ++ r), false)).2).2) →
      (((prAt K (prStart K (prLeaf K (midB x ++ (x.sig ++ r), false)).2).2).1 : Nat) : Int) = x.at_ → (prAt K (prStart K (prLeaf K (midB x ++ (x.sig ++ r), false)).2).2).2 = (x.sig ++ r, false) → pProp (S, false) = (x, (r, false)) := by
    intro K hK hKl g1 g2 g3 g4
    have e5 : pNum 1 (prS4 (S, false)) = (K, (midB x ++ (x.sig ++ r), false)) := by
      unfold prS4; rw [e4, hK]; exact pNum_app (show K < 256 ^ 1 by omega) _ _
    have k5 : prK (S, false) = K := by unfold prK; rw [e5]
    have s5 : prS5 (S, false) = (midB x ++ (x.sig ++ r), false) := by unfold prS5; rw [e5]
    have s6 : prS6 (S, false) = (prLeaf K (midB x ++ (x.sig ++ r), false)).2 := by unfold prS6; rw [k5, s5]
    have s7 : prS7 (S, false) = (prStart K (prLeaf K (midB x ++ (x.sig ++ r), false)).2).2 := by unfold prS7; rw [k5, s6]
    have s8 : prS8 (S, false) = (x.sig ++ r, false) := by unfold prS8; rw [k5, s7, g4]
    have e9 : pTk 64 (prS8 (S, false)) = (x.sig, (r, false)) := by rw [s8]; exact pTk_app hx.sig _ _
    unfold pProp prV prS9
    rw [k5, s7, s6, s5, e1, e2, e3, e4, e9, g1, g3, ← hE, ← hF, ← hK]
    rw [show (prStart K (prLeaf K (midB x ++ (x.sig ++ r), false)).2).1 = x.start by rw [g2]]
  unfold kindBad at h3
  by_cases hk1 : x.kind = 1
  · rw [if_pos hk1] at h3
    rw [Bool.or_eq_false_iff] at h3
    have hm : midB x = nodeB x.leaf ++ x.start := by unfold midB; rw [if_pos hk1]
    have l1 : prLeaf 1 (midB x ++ (x.sig ++ r), false) = (x.leaf, (x.start ++ (x.sig ++ r), false)) := by
      unfold prLeaf; rw [if_pos (.inl rfl), hm, List.append_assoc]; exact pNode_put hx.leaf h3.1 _
    have l2 : prStart 1 (x.start ++ (x.sig ++ r), false) = (x.start, (x.sig ++ r, false)) := by unfold prStart; rw [if_pos rfl]; exact pTk_app hx.start _ _
    refine fin 1 hk1 (by omega) (by rw [l1]) (by rw [l1, l2]) ?_ ?_
    · rw [l1, l2]; unfold prAt; rw [if_neg (by omega)]
      have := h3.2; simp at this; rw [this]; rfl
    · rw [l1, l2]; unfold prAt; rw [if_neg (by omega)]
  · rw [if_neg hk1] at h3
    by_cases hk2 : x.kind = 2
    · rw [if_pos hk2] at h3
      rw [Bool.or_eq_false_iff, Bool.or_eq_false_iff] at h3
      have hm : midB x = nodeB x.leaf := by unfold midB; rw [if_neg hk1, if_pos hk2]
      have l1 : prLeaf 2 (midB x ++ (x.sig ++ r), false) = (x.leaf, (x.sig ++ r, false)) := by
        unfold prLeaf; rw [if_pos (.inr rfl), hm]; exact pNode_put hx.leaf h3.1.1 _
      have hst : x.start = zero32 := by have := h3.1.2; simpa using this
      have l2 : prStart 2 (x.sig ++ r, false) = (x.start, (x.sig ++ r, false)) := by unfold prStart; rw [if_neg (by omega), hst]
      refine fin 2 hk2 (by omega) (by rw [l1]) (by rw [l1, l2]) ?_ ?_
      · rw [l1, l2]; unfold prAt; rw [if_neg (by omega)]
        have := h3.2; simp at this; rw [this]; rfl
      · rw [l1, l2]; unfold prAt; rw [if_neg (by omega)]
    · rw [if_neg hk2] at h3
      by_cases hk3 : x.kind = 3
      · rw [if_pos hk3] at h3
        rw [Bool.or_eq_false_iff, Bool.or_eq_false_iff] at h3
        obtain ⟨Z, hZ, hZl⟩ := outOf_int h3.1.1
        have hm : midB x = be x.at_ 1 := by unfold midB; rw [if_neg hk1, if_neg hk2, if_pos hk3]
        have hzl : x.leaf = zNode := zeroN_eq (by have := h3.1.2; simpa using this)
        have hst : x.start = zero32 := by have := h3.2; simpa using this
        have l1 : prLeaf 3 (midB x ++ (x.sig ++ r), false) = (x.leaf, (midB x ++ (x.sig ++ r), false)) := by unfold prLeaf; rw [if_neg (by omega), hzl]
        have l2 : prStart 3 (midB x ++ (x.sig ++ r), false) = (x.start, (midB x ++ (x.sig ++ r), false)) := by unfold prStart; rw [if_neg (by omega), hst]
        have l3 : prAt 3 (midB x ++ (x.sig ++ r), false) = (Z, (x.sig ++ r, false)) := by unfold prAt; rw [if_pos rfl, hm, hZ]; exact pNum_app (show Z < 256 ^ 1 by omega) _ _
        refine fin 3 hk3 (by omega) (by rw [l1]) (by rw [l1, l2]) ?_ ?_
        · rw [l1, l2, l3, hZ]
        · rw [l1, l2, l3]
      · rw [if_neg hk3] at h3; cases h3
theorem prV_grp (s : St) : (prV s).grp = (pTk 32 s).1 := by rw [prV]
theorem prV_ep (s : St) : (prV s).ep = ((pNum 4 (prS1 s)).1 : Int) := by rw [prV]
theorem prV_frm (s : St) : (prV s).frm = ((pNum 1 (prS2 s)).1 : Int) := by rw [prV]
theorem prV_base (s : St) : (prV s).base = (pTk 32 (prS3 s)).1 := by rw [prV]
theorem prV_kind (s : St) : (prV s).kind = (prK s : Int) := by rw [prV]
theorem prV_leaf (s : St) : (prV s).leaf = (prLeaf (prK s) (prS5 s)).1 := by rw [prV]
theorem prV_start (s : St) : (prV s).start = (prStart (prK s) (prS6 s)).1 := by rw [prV]
theorem prV_at (s : St) : (prV s).at_ = ((prAt (prK s) (prS7 s)).1 : Int) := by rw [prV]
theorem prV_sig (s : St) : (prV s).sig = (pTk 64 (prS8 s)).1 := by rw [prV]
theorem prK_lt (s : St) : prK s < 256 := by unfold prK; exact pNum1_lt _
theorem prLeaf_ok (k : Nat) (s : St) : (prLeaf k s).1.Ok ∧ (prLeaf k s).1.um.length ≤ 255 := by
  unfold prLeaf; split
  · exact ⟨pNode_ok s, pNode_um s⟩
  · exact ⟨zNode_ok, by simp [zNode]⟩
theorem prAt_lt (k : Nat) (s : St) : (prAt k s).1 < 256 := by
  unfold prAt; split
  · exact pNum1_lt s
  · show 0 < 256; omega
theorem prV_ok (s : St) : (prV s).Ok := by
  refine ⟨by rw [prV_grp]; exact pTk_len _ _, by rw [prV_base]; exact pTk_len _ _, ?_, by rw [prV_sig]; exact pTk_len _ _, by rw [prV_leaf]; exact (prLeaf_ok _ _).1, ?_, ?_, ?_, ?_⟩
  · rw [prV_start]; unfold prStart; split
    · exact pTk_len _ _
    · exact zero32_len
  · rw [prV_ep]
    have h : (pNum 4 (prS1 s)).1 < 256 ^ 4 := beVal_lt 4 _ (tkO_len _ _)
    generalize (pNum 4 (prS1 s)).1 = n at h ⊢
    exact wf_small (by omega)
  · rw [prV_frm]
    have h := pNum1_lt (prS2 s)
    generalize (pNum 1 (prS2 s)).1 = n at h ⊢
    exact wf_small (by omega)
  · rw [prV_kind]
    have h := prK_lt s
    generalize prK s = n at h ⊢
    exact wf_small (by omega)
  · rw [prV_at]
    have h := prAt_lt (prK s) (prS7 s)
    generalize (prAt (prK s) (prS7 s)).1 = n at h ⊢
    exact wf_small (by omega)
theorem pProp_le (s : St) : (pProp s).2.1.length ≤ s.1.length := by
  have l1 := pTk_le 32 s
  have l2 := pNum_le 4 (prS1 s)
  have l3 := pNum_le 1 (prS2 s)
  have l4 := pTk_le 32 (prS3 s)
  have l5 := pNum_le 1 (prS4 s)
  have l6 : (prLeaf (prK s) (prS5 s)).2.1.length ≤ (prS5 s).1.length := by unfold prLeaf; split; exact pNode_le _; exact Nat.le_refl _
  have l7 : (prStart (prK s) (prS6 s)).2.1.length ≤ (prS6 s).1.length := by unfold prStart; split; exact pTk_le _ _; exact Nat.le_refl _
  have l8 : (prAt (prK s) (prS7 s)).2.1.length ≤ (prS7 s).1.length := by unfold prAt; split; exact pNum_le _ _; exact Nat.le_refl _
  have l9 := pTk_le 64 (prS8 s)
  have e1 : prS1 s = (pTk 32 s).2 := by unfold prS1; rfl
  have e2 : prS2 s = (pNum 4 (prS1 s)).2 := by unfold prS2; rfl
  have e3 : prS3 s = (pNum 1 (prS2 s)).2 := by unfold prS3; rfl
  have e4 : prS4 s = (pTk 32 (prS3 s)).2 := by unfold prS4; rfl
  have e5 : prS5 s = (pNum 1 (prS4 s)).2 := by unfold prS5; rfl
  have e6 : prS6 s = (prLeaf (prK s) (prS5 s)).2 := by unfold prS6; rfl
  have e7 : prS7 s = (prStart (prK s) (prS6 s)).2 := by unfold prS7; rfl
  have e8 : prS8 s = (prAt (prK s) (prS7 s)).2 := by unfold prS8; rfl
  have e9 : (pProp s).2 = (pTk 64 (prS8 s)).2 := by rw [pProp, prS9]
  rw [← e1] at l1; rw [← e2] at l2; rw [← e3] at l3; rw [← e4] at l4; rw [← e5] at l5; rw [← e6] at l6; rw [← e7] at l7; rw [← e8] at l8; rw [← e9] at l9
  omega
def goodP (bs : List (BitVec 8)) : Bool := chkGood (pProp (bs, false)).2.2 (pProp (bs, false)).2.1 bs (propBad (pProp (bs, false)).1 || decide (65536 < (propB (pProp (bs, false)).1).length)) (propB (pProp (bs, false)).1)
theorem goodP_put {x : PropD} (hx : x.Ok) (hb : propBad x = false) (hl : (propB x).length ≤ 65536) : goodP (propB x) = true := by
  have h := pProp_put hx hb []
  rw [List.append_nil] at h
  unfold goodP
  rw [h]
  unfold chkGood
  rw [hb, show decide (65536 < (propB x).length) = false by simp; omega]
  simp
end Go.Proofs.Ytloglpamnalmeaa
