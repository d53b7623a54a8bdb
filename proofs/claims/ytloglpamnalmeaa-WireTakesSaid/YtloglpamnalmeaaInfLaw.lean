/- PLAIN LAW: an info that is put is read back. -/
import Derived.Test.YtloglpamnalmeaaTreeLaw
import Derived.Test.YtloglpamnalmeaaInfD
namespace Go.Proofs.Ytloglpamnalmeaa
open Go.RowKit
set_option linter.unusedVariables false
set_option linter.unusedSimpArgs false

def infBX (x : InfD) (xs : List NodeD) : List (BitVec 8) := x.grp ++ (be x.ep 4 ++ (treeBX xs ++ (x.conf ++ (x.tag ++ (be x.frm 1 ++ x.sig)))))
def infBadX (x : InfD) (xs : List NodeD) : Bool := outOf x.ep 4294967295 || treeBadX xs || outOf x.frm 31
theorem infB_X (x : InfD) (ts : List TN) : infB x ts = infBX x (ts.map (·.x)) := by unfold infB infBX; rw [treeB_X]
theorem infBad_X (x : InfD) (ts : List TN) : infBad x ts = infBadX x (ts.map (·.x)) := by unfold infBad infBadX; rw [treeBad_X]
def infS1 (s : St) : St := (pTk 32 s).2
def infS2 (s : St) : St := (pNum 4 (infS1 s)).2
def infS3 (s : St) : St := (pList pNode (infS2 s)).2
def infS4 (s : St) : St := (pTk 32 (infS3 s)).2
def infS5 (s : St) : St := (pTk 32 (infS4 s)).2
def infS6 (s : St) : St := (pNum 1 (infS5 s)).2
def infS7 (s : St) : St := (pTk 64 (infS6 s)).2
def infV (s : St) : InfD := ⟨(pTk 32 s).1, ((pNum 4 (infS1 s)).1 : Int), (pTk 32 (infS3 s)).1, (pTk 32 (infS4 s)).1, ((pNum 1 (infS5 s)).1 : Int), (pTk 64 (infS6 s)).1⟩
def infN (s : St) : List NodeD := (pList pNode (infS2 s)).1
theorem pTree_app {xs : List NodeD} (hx : ∀ x ∈ xs, x.Ok) (hb : treeBadX xs = false) (r : List (BitVec 8)) : pList pNode (treeBX xs ++ r, false) = (xs, (r, false)) := by
  unfold treeBadX at hb
  simp only [Bool.or_eq_false_iff, Bool.not_eq_false'] at hb
  have hl := wholeB_le hb.1
  unfold treeBX
  rw [List.append_assoc]
  exact pList_app pNode nodeB xs r (by omega) (fun x h r => pNode_put (hx x h) (by have := List.any_eq_false.1 hb.2 x h; simpa using this) r)
theorem pInf_put {x : InfD} {xs : List NodeD} (hx : x.Ok) (hxs : ∀ x ∈ xs, x.Ok) (hb : infBadX x xs = false) : infV (infBX x xs, false) = x ∧ infN (infBX x xs, false) = xs ∧ infS7 (infBX x xs, false) = ([], false) := by
  unfold infBadX at hb
  simp only [Bool.or_eq_false_iff] at hb
  obtain ⟨⟨h1, h2⟩, h3⟩ := hb
  obtain ⟨E, hE, hEl⟩ := outOf_int h1
  obtain ⟨F, hF, hFl⟩ := outOf_int h3
  have e1 : pTk 32 (infBX x xs, false) = (x.grp, (be x.ep 4 ++ (treeBX xs ++ (x.conf ++ (x.tag ++ (be x.frm 1 ++ x.sig)))), false)) := pTk_app hx.grp _ _
  have e2 : pNum 4 (infS1 (infBX x xs, false)) = (E, (treeBX xs ++ (x.conf ++ (x.tag ++ (be x.frm 1 ++ x.sig))), false)) := by
    unfold infS1; rw [e1, hE]; exact pNum_app (show E < 256 ^ 4 by omega) _ _
  have e3 : pList pNode (infS2 (infBX x xs, false)) = (xs, (x.conf ++ (x.tag ++ (be x.frm 1 ++ x.sig)), false)) := by
    unfold infS2; rw [e2]; exact pTree_app hxs h2 _
  have e4 : pTk 32 (infS3 (infBX x xs, false)) = (x.conf, (x.tag ++ (be x.frm 1 ++ x.sig), false)) := by
    unfold infS3; rw [e3]; exact pTk_app hx.conf _ _
  have e5 : pTk 32 (infS4 (infBX x xs, false)) = (x.tag, (be x.frm 1 ++ x.sig, false)) := by
    unfold infS4; rw [e4]; exact pTk_app hx.tag _ _
  have e6 : pNum 1 (infS5 (infBX x xs, false)) = (F, (x.sig, false)) := by
    unfold infS5; rw [e5, hF]; exact pNum_app (show F < 256 ^ 1 by omega) _ _
  have e7 : pTk 64 (infS6 (infBX x xs, false)) = (x.sig, ([], false)) := by
    unfold infS6; rw [e6]
    have := pTk_app hx.sig [] false
    rwa [List.append_nil] at this
  refine ⟨?_, ?_, ?_⟩
  · unfold infV; rw [e1, e2, e4, e5, e6, e7, ← hE, ← hF]
  · unfold infN; rw [e3]
  · unfold infS7; rw [e7]
def goodI (bs : List (BitVec 8)) : Bool := chkGood (infS7 (bs, false)).2 (infS7 (bs, false)).1 bs (infBadX (infV (bs, false)) (infN (bs, false)) || decide (65536 < (infBX (infV (bs, false)) (infN (bs, false))).length)) (infBX (infV (bs, false)) (infN (bs, false)))
theorem goodI_put {x : InfD} {xs : List NodeD} (hx : x.Ok) (hxs : ∀ x ∈ xs, x.Ok) (hb : infBadX x xs = false) (hl : (infBX x xs).length ≤ 65536) : goodI (infBX x xs) = true := by
  obtain ⟨h1, h2, h3⟩ := pInf_put hx hxs hb
  unfold goodI
  rw [h1, h2, h3]
  unfold chkGood
  rw [hb, show decide (65536 < (infBX x xs).length) = false by simp; omega]
  simp
theorem infV_grp (s : St) : (infV s).grp = (pTk 32 s).1 := by rw [infV]
theorem infV_ep (s : St) : (infV s).ep = ((pNum 4 (infS1 s)).1 : Int) := by rw [infV]
theorem infV_conf (s : St) : (infV s).conf = (pTk 32 (infS3 s)).1 := by rw [infV]
theorem infV_tag (s : St) : (infV s).tag = (pTk 32 (infS4 s)).1 := by rw [infV]
theorem infV_frm (s : St) : (infV s).frm = ((pNum 1 (infS5 s)).1 : Int) := by rw [infV]
theorem infV_sig (s : St) : (infV s).sig = (pTk 64 (infS6 s)).1 := by rw [infV]
theorem infV_ok (s : St) : (infV s).Ok := by
  refine ⟨by rw [infV_grp]; exact pTk_len _ _, by rw [infV_conf]; exact pTk_len _ _, by rw [infV_tag]; exact pTk_len _ _, by rw [infV_sig]; exact pTk_len _ _, ?_, ?_⟩
  · rw [infV_ep]
    have h : (pNum 4 (infS1 s)).1 < 256 ^ 4 := beVal_lt 4 _ (tkO_len _ _)
    generalize (pNum 4 (infS1 s)).1 = n at h ⊢
    exact wf_small (by omega)
  · rw [infV_frm]
    have h := pNum1_lt (infS5 s)
    generalize (pNum 1 (infS5 s)).1 = n at h ⊢
    exact wf_small (by omega)
end Go.Proofs.Ytloglpamnalmeaa
