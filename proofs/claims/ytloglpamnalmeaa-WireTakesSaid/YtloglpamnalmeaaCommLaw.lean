/- PLAIN LAW: a commit that is put is read back. -/
import Derived.Test.YtloglpamnalmeaaManyStep
import Derived.Test.YtloglpamnalmeaaManyProp
namespace Go.Proofs.Ytloglpamnalmeaa
open Go.RowKit
set_option linter.unusedVariables false
set_option linter.unusedSimpArgs false

/-- what a commit says -/
structure CommV where
  grp : List (BitVec 8)
  ep : Int
  frm : Int
  base : List (BitVec 8)
  props : List PropD
  leaf : NodeD
  steps : List StepV
  tag : List (BitVec 8)
  sig : List (BitVec 8)
def CommT.v (x : CommT) : CommV := ⟨x.grp, x.ep, x.frm, x.base, x.props.map PropT.v, x.path.leaf, x.path.steps.map StepT.v, x.tag, x.sig⟩
def rowsBX (rs : List (List (BitVec 8))) : List (BitVec 8) := rs.flatMap rowB
def rowsBadX (rs : List (List (BitVec 8))) : Bool := rs.any fun r => outOf (r.length : Int) 65535
def stepBX (s : StepV) : List (BitVec 8) := s.key ++ (be s.rows.length 1 ++ rowsBX s.rows)
def stepBadX (s : StepV) : Bool := outOf s.rows.length 255 || rowsBadX s.rows
theorem stepB_X (s : StepT) : stepB s = stepBX s.v := by unfold stepB stepBX StepT.v rowsB rowsBX; rw [List.length_map, List.flatMap_map]
theorem stepBad_X (s : StepT) : stepBad s = stepBadX s.v := by unfold stepBad stepBadX StepT.v rowsBad rowsBadX; rw [List.length_map, List.any_map]; rfl
def commBX (x : CommV) : List (BitVec 8) := groupB x.grp x.ep x.frm ++ (x.base ++ (be x.props.length 1 ++ (x.props.flatMap propB ++ ((nodeB x.leaf ++ (be x.steps.length 1 ++ x.steps.flatMap stepBX)) ++ (x.tag ++ x.sig)))))
def commBadX (x : CommV) : Bool := outOf x.ep 4294967295 || outOf x.frm 31 || outOf x.props.length 255 || x.props.any propBad || (nodeBad x.leaf || outOf x.steps.length 5 || x.steps.any stepBadX)
theorem commB_X (x : CommT) : commB x = commBX x.v := by
  unfold commB commBX CommT.v pathB propsB stepsB
  simp only [List.length_map, List.flatMap_map, ← stepB_X]
  rfl
theorem commBad_X (x : CommT) : commBad x = commBadX x.v := by
  unfold commBad commBadX CommT.v pathBad propsBad stepsBad
  simp only [List.length_map, List.any_map, Function.comp_def, ← stepBad_X]
  rfl
theorem pRow_put {xs : List (BitVec 8)} (h : outOf (xs.length : Int) 65535 = false) (r : List (BitVec 8)) : pRow (rowB xs ++ r, false) = (xs, (r, false)) := by
  obtain ⟨N, hN, hNl⟩ := outOf_int h
  unfold pRow rowB
  rw [List.append_assoc, pNum_app (show xs.length < 256 ^ 2 by omega)]
  exact pTk_app rfl r false
theorem pStep_put {s : StepV} (hk : s.key.length = 32) (hb : stepBadX s = false) (r : List (BitVec 8)) : pStep (stepBX s ++ r, false) = (s, (r, false)) := by
  unfold stepBadX at hb
  rw [Bool.or_eq_false_iff] at hb
  obtain ⟨N, hN, hNl⟩ := outOf_int hb.1
  have e1 : pTk 32 (stepBX s ++ r, false) = (s.key, (be s.rows.length 1 ++ (s.rows.flatMap rowB ++ r), false)) := by
    unfold stepBX rowsBX; rw [List.append_assoc, List.append_assoc]; exact pTk_app hk _ _
  have e2 : pList pRow (be (s.rows.length : Int) 1 ++ (s.rows.flatMap rowB ++ r), false) = (s.rows, (r, false)) :=
    pList_app pRow rowB s.rows r (by omega) (fun x hx r => pRow_put (by have := List.any_eq_false.1 hb.2 x hx; simpa using this) r)
  rw [pStep, e1, e2]
def cmS1 (s : St) : St := (pTk 32 s).2
def cmS2 (s : St) : St := (pNum 4 (cmS1 s)).2
def cmS3 (s : St) : St := (pNum 1 (cmS2 s)).2
def cmS4 (s : St) : St := (pTk 32 (cmS3 s)).2
def cmS5 (s : St) : St := (pList pProp (cmS4 s)).2
def cmS6 (s : St) : St := (pNode (cmS5 s)).2
def cmS7 (s : St) : St := (pList pStep (cmS6 s)).2
def cmS8 (s : St) : St := (pTk 32 (cmS7 s)).2
def cmS9 (s : St) : St := (pTk 64 (cmS8 s)).2
def cmV (s : St) : CommV := ⟨(pTk 32 s).1, ((pNum 4 (cmS1 s)).1 : Int), ((pNum 1 (cmS2 s)).1 : Int), (pTk 32 (cmS3 s)).1, (pList pProp (cmS4 s)).1, (pNode (cmS5 s)).1, (pList pStep (cmS6 s)).1, (pTk 32 (cmS7 s)).1, (pTk 64 (cmS8 s)).1⟩
/-- the lengths and numbers of a commit -/
structure CommV.Ok (x : CommV) : Prop where
  grp : x.grp.length = 32
  base : x.base.length = 32
  tag : x.tag.length = 32
  sig : x.sig.length = 64
  props : ∀ p ∈ x.props, p.Ok
  leaf : x.leaf.Ok
  steps : ∀ s ∈ x.steps, s.key.length = 32
theorem pComm_put {x : CommV} (hx : x.Ok) (hb : commBadX x = false) : cmV (commBX x, false) = x ∧ cmS9 (commBX x, false) = ([], false) := by
  unfold commBadX at hb
  simp only [Bool.or_eq_false_iff] at hb
  obtain ⟨⟨⟨⟨h1, h2⟩, h3⟩, h4⟩, ⟨h5, h6⟩, h7⟩ := hb
  obtain ⟨E, hE, hEl⟩ := outOf_int h1
  obtain ⟨F, hF, hFl⟩ := outOf_int h2
  obtain ⟨P, hP, hPl⟩ := outOf_int h3
  obtain ⟨Q, hQ, hQl⟩ := outOf_int h6
  have e0 : commBX x = x.grp ++ (be x.ep 4 ++ (be x.frm 1 ++ (x.base ++ (be x.props.length 1 ++ (x.props.flatMap propB ++ (nodeB x.leaf ++ (be x.steps.length 1 ++ (x.steps.flatMap stepBX ++ (x.tag ++ x.sig))))))))) := by
    unfold commBX groupB; simp only [List.append_assoc]
  rw [e0]
  have e1 : pTk 32 (x.grp ++ (be x.ep 4 ++ (be x.frm 1 ++ (x.base ++ (be x.props.length 1 ++ (x.props.flatMap propB ++ (nodeB x.leaf ++ (be x.steps.length 1 ++ (x.steps.flatMap stepBX ++ (x.tag ++ x.sig))))))))), false) = (x.grp, (be x.ep 4 ++ (be x.frm 1 ++ (x.base ++ (be x.props.length 1 ++ (x.props.flatMap propB ++ (nodeB x.leaf ++ (be x.steps.length 1 ++ (x.steps.flatMap stepBX ++ (x.tag ++ x.sig)))))))), false)) := pTk_app hx.grp _ _
  generalize x.grp ++ (be x.ep 4 ++ (be x.frm 1 ++ (x.base ++ (be x.props.length 1 ++ (x.props.flatMap propB ++ (nodeB x.leaf ++ (be x.steps.length 1 ++ (x.steps.flatMap stepBX ++ (x.tag ++ x.sig))))))))) = S at e1 ⊢
  have e2 : pNum 4 (cmS1 (S, false)) = (E, (be x.frm 1 ++ (x.base ++ (be x.props.length 1 ++ (x.props.flatMap propB ++ (nodeB x.leaf ++ (be x.steps.length 1 ++ (x.steps.flatMap stepBX ++ (x.tag ++ x.sig))))))), false)) := by
    unfold cmS1; rw [e1, hE]; exact pNum_app (show E < 256 ^ 4 by omega) _ _
  have e3 : pNum 1 (cmS2 (S, false)) = (F, (x.base ++ (be x.props.length 1 ++ (x.props.flatMap propB ++ (nodeB x.leaf ++ (be x.steps.length 1 ++ (x.steps.flatMap stepBX ++ (x.tag ++ x.sig)))))), false)) := by
    unfold cmS2; rw [e2, hF]; exact pNum_app (show F < 256 ^ 1 by omega) _ _
  have e4 : pTk 32 (cmS3 (S, false)) = (x.base, (be x.props.length 1 ++ (x.props.flatMap propB ++ (nodeB x.leaf ++ (be x.steps.length 1 ++ (x.steps.flatMap stepBX ++ (x.tag ++ x.sig))))), false)) := by
    unfold cmS3; rw [e3]; exact pTk_app hx.base _ _
  have e5 : pList pProp (cmS4 (S, false)) = (x.props, (nodeB x.leaf ++ (be x.steps.length 1 ++ (x.steps.flatMap stepBX ++ (x.tag ++ x.sig))), false)) := by
    unfold cmS4; rw [e4]
    exact pList_app pProp propB x.props _ (by omega) (fun p hp r => pProp_put (hx.props p hp) (by have := List.any_eq_false.1 h4 p hp; simpa using this) r)
  have e6 : pNode (cmS5 (S, false)) = (x.leaf, (be x.steps.length 1 ++ (x.steps.flatMap stepBX ++ (x.tag ++ x.sig)), false)) := by
    unfold cmS5; rw [e5]; exact pNode_put hx.leaf h5 _
  have e7 : pList pStep (cmS6 (S, false)) = (x.steps, (x.tag ++ x.sig, false)) := by
    unfold cmS6; rw [e6]
    exact pList_app pStep stepBX x.steps _ (by omega) (fun s hs r => pStep_put (hx.steps s hs) (by have := List.any_eq_false.1 h7 s hs; simpa using this) r)
  have e8 : pTk 32 (cmS7 (S, false)) = (x.tag, (x.sig, false)) := by
    unfold cmS7; rw [e7]; exact pTk_app hx.tag _ _
  have e9 : pTk 64 (cmS8 (S, false)) = (x.sig, ([], false)) := by
    unfold cmS8; rw [e8]
    have := pTk_app hx.sig [] false
    rwa [List.append_nil] at this
  refine ⟨?_, ?_⟩
  · unfold cmV; rw [e1, e2, e3, e4, e5, e6, e7, e8, e9, ← hE, ← hF]
  · unfold cmS9; rw [e9]
def goodC (bs : List (BitVec 8)) : Bool := chkGood (cmS9 (bs, false)).2 (cmS9 (bs, false)).1 bs (commBadX (cmV (bs, false)) || decide (65536 < (commBX (cmV (bs, false))).length)) (commBX (cmV (bs, false)))
theorem goodC_put {x : CommV} (hx : x.Ok) (hb : commBadX x = false) (hl : (commBX x).length ≤ 65536) : goodC (commBX x) = true := by
  obtain ⟨h1, h2⟩ := pComm_put hx hb
  unfold goodC
  rw [h1, h2]
  unfold chkGood
  rw [hb, show decide (65536 < (commBX x).length) = false by simp; omega]
  simp
theorem cmV_grp (s : St) : (cmV s).grp = (pTk 32 s).1 := by rw [cmV]
theorem cmV_ep (s : St) : (cmV s).ep = ((pNum 4 (cmS1 s)).1 : Int) := by rw [cmV]
theorem cmV_frm (s : St) : (cmV s).frm = ((pNum 1 (cmS2 s)).1 : Int) := by rw [cmV]
theorem cmV_base (s : St) : (cmV s).base = (pTk 32 (cmS3 s)).1 := by rw [cmV]
theorem cmV_props (s : St) : (cmV s).props = (pList pProp (cmS4 s)).1 := by rw [cmV]
theorem cmV_leaf (s : St) : (cmV s).leaf = (pNode (cmS5 s)).1 := by rw [cmV]
theorem cmV_steps (s : St) : (cmV s).steps = (pList pStep (cmS6 s)).1 := by rw [cmV]
theorem cmV_tag (s : St) : (cmV s).tag = (pTk 32 (cmS7 s)).1 := by rw [cmV]
theorem cmV_sig (s : St) : (cmV s).sig = (pTk 64 (cmS8 s)).1 := by rw [cmV]
end Go.Proofs.Ytloglpamnalmeaa
