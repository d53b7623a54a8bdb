/- PLAIN LAW: no beginning of a commit's bytes is read as a commit, nor its bytes and more. -/
import Derived.Test.YtloglpamnalmeaaCommLaw
namespace Go.Proofs.Ytloglpamnalmeaa
open Go.RowKit
set_option linter.unusedVariables false
set_option linter.unusedSimpArgs false

theorem pComm_app {x : CommV} (hx : x.Ok) (hb : commBadX x = false) (r : List (BitVec 8)) : cmV (commBX x ++ r, false) = x ∧ cmS9 (commBX x ++ r, false) = (r, false) := by
  unfold commBadX at hb
  simp only [Bool.or_eq_false_iff] at hb
  obtain ⟨⟨⟨⟨h1, h2⟩, h3⟩, h4⟩, ⟨h5, h6⟩, h7⟩ := hb
  obtain ⟨E, hE, hEl⟩ := outOf_int h1
  obtain ⟨F, hF, hFl⟩ := outOf_int h2
  obtain ⟨P, hP, hPl⟩ := outOf_int h3
  obtain ⟨Q, hQ, hQl⟩ := outOf_int h6
  have e0 : commBX x ++ r = x.grp ++ (be x.ep 4 ++ (be x.frm 1 ++ (x.base ++ (be x.props.length 1 ++ (x.props.flatMap propB ++ (nodeB x.leaf ++ (be x.steps.length 1 ++ (x.steps.flatMap stepBX ++ (x.tag ++ (x.sig ++ r)))))))))) := by
    unfold commBX groupB; simp only [List.append_assoc]
  rw [e0]
  have e1 : pTk 32 (x.grp ++ (be x.ep 4 ++ (be x.frm 1 ++ (x.base ++ (be x.props.length 1 ++ (x.props.flatMap propB ++ (nodeB x.leaf ++ (be x.steps.length 1 ++ (x.steps.flatMap stepBX ++ (x.tag ++ (x.sig ++ r)))))))))), false) = (x.grp, (be x.ep 4 ++ (be x.frm 1 ++ (x.base ++ (be x.props.length 1 ++ (x.props.flatMap propB ++ (nodeB x.leaf ++ (be x.steps.length 1 ++ (x.steps.flatMap stepBX ++ (x.tag ++ (x.sig ++ r))))))))), false)) := pTk_app hx.grp _ _
  generalize x.grp ++ (be x.ep 4 ++ (be x.frm 1 ++ (x.base ++ (be x.props.length 1 ++ (x.props.flatMap propB ++ (nodeB x.leaf ++ (be x.steps.length 1 ++ (x.steps.flatMap stepBX ++ (x.tag ++ (x.sig ++ r)))))))))) = S at e1 ⊢
  have e2 : pNum 4 (cmS1 (S, false)) = (E, (be x.frm 1 ++ (x.base ++ (be x.props.length 1 ++ (x.props.flatMap propB ++ (nodeB x.leaf ++ (be x.steps.length 1 ++ (x.steps.flatMap stepBX ++ (x.tag ++ (x.sig ++ r)))))))), false)) := by
    unfold cmS1; rw [e1, hE]; exact pNum_app (show E < 256 ^ 4 by omega) _ _
  have e3 : pNum 1 (cmS2 (S, false)) = (F, (x.base ++ (be x.props.length 1 ++ (x.props.flatMap propB ++ (nodeB x.leaf ++ (be x.steps.length 1 ++ (x.steps.flatMap stepBX ++ (x.tag ++ (x.sig ++ r))))))), false)) := by
    unfold cmS2; rw [e2, hF]; exact pNum_app (show F < 256 ^ 1 by omega) _ _
  have e4 : pTk 32 (cmS3 (S, false)) = (x.base, (be x.props.length 1 ++ (x.props.flatMap propB ++ (nodeB x.leaf ++ (be x.steps.length 1 ++ (x.steps.flatMap stepBX ++ (x.tag ++ (x.sig ++ r)))))), false)) := by
    unfold cmS3; rw [e3]; exact pTk_app hx.base _ _
  have e5 : pList pProp (cmS4 (S, false)) = (x.props, (nodeB x.leaf ++ (be x.steps.length 1 ++ (x.steps.flatMap stepBX ++ (x.tag ++ (x.sig ++ r)))), false)) := by
    unfold cmS4; rw [e4]
    exact pList_app pProp propB x.props _ (by omega) (fun p hp r => pProp_put (hx.props p hp) (by have := List.any_eq_false.1 h4 p hp; simpa using this) r)
  have e6 : pNode (cmS5 (S, false)) = (x.leaf, (be x.steps.length 1 ++ (x.steps.flatMap stepBX ++ (x.tag ++ (x.sig ++ r))), false)) := by
    unfold cmS5; rw [e5]; exact pNode_put hx.leaf h5 _
  have e7 : pList pStep (cmS6 (S, false)) = (x.steps, (x.tag ++ (x.sig ++ r), false)) := by
    unfold cmS6; rw [e6]
    exact pList_app pStep stepBX x.steps _ (by omega) (fun s hs r => pStep_put (hx.steps s hs) (by have := List.any_eq_false.1 h7 s hs; simpa using this) r)
  have e8 : pTk 32 (cmS7 (S, false)) = (x.tag, (x.sig ++ r, false)) := by
    unfold cmS7; rw [e7]; exact pTk_app hx.tag _ _
  have e9 : pTk 64 (cmS8 (S, false)) = (x.sig, (r, false)) := by
    unfold cmS8; rw [e8]; exact pTk_app hx.sig _ _
  refine ⟨?_, ?_⟩
  · unfold cmV; rw [e1, e2, e3, e4, e5, e6, e7, e8, e9, ← hE, ← hF]
  · unfold cmS9; rw [e9]
theorem pProp_ok (s : St) : (pProp s).1.Ok := by rw [pProp]; exact prV_ok s
theorem pStep_key (s : St) : (pStep s).1.key.length = 32 := by rw [pStep]; exact pTk_len _ _
theorem cmV_ok (s : St) : (cmV s).Ok := by
  refine ⟨by rw [cmV_grp]; exact pTk_len _ _, by rw [cmV_base]; exact pTk_len _ _, by rw [cmV_tag]; exact pTk_len _ _, by rw [cmV_sig]; exact pTk_len _ _, ?_, by rw [cmV_leaf]; exact pNode_ok _, ?_⟩
  · rw [cmV_props]; exact pMany_all pProp (fun p => p.Ok) pProp_ok _ _
  · rw [cmV_steps]; exact pMany_all pStep (fun p => p.key.length = 32) pStep_key _ _
theorem goodC_of {bs : List (BitVec 8)} (h : goodC bs = true) : bs = commBX (cmV (bs, false)) ∧ commBadX (cmV (bs, false)) = false := by
  unfold goodC chkGood at h
  simp only [Bool.and_eq_true, Bool.not_eq_true', Bool.or_eq_false_iff, beq_iff_eq] at h
  exact ⟨h.2, h.1.2.1⟩
/-- bytes of a commit with more behind them are no commit's -/
theorem goodC_more {x : CommV} (hx : x.Ok) (hb : commBadX x = false) {r : List (BitVec 8)} (hr : r ≠ []) : goodC (commBX x ++ r) = false := by
  have h := (pComm_app hx hb r).2
  unfold goodC chkGood
  rw [h]
  cases r with
  | nil => exact absurd rfl hr
  | cons a r => simp
/-- nor is a beginning -/
theorem goodC_less {x : CommV} (hx : x.Ok) (hb : commBadX x = false) {k : Nat} (hk : k < (commBX x).length) : goodC ((commBX x).take k) = false := by
  cases h : goodC ((commBX x).take k) with
  | false => rfl
  | true =>
    obtain ⟨h1, h2⟩ := goodC_of h
    have hr : (commBX x).drop k ≠ [] := by intro e; have := congrArg List.length e; rw [List.length_drop] at this; simp at this; omega
    have h3 := goodC_more (cmV_ok ((commBX x).take k, false)) h2 hr
    rw [← h1, List.take_append_drop] at h3
    have h4 := (pComm_app hx hb []).2
    rw [List.append_nil] at h4
    have h5 := (pComm_app (cmV_ok ((commBX x).take k, false)) h2 ((commBX x).drop k)).2
    rw [← h1, List.take_append_drop, h4] at h5
    exact absurd (congrArg Prod.fst h5).symm hr
theorem parse_app (S : List (BitVec 8)) (E F N : Nat) (T r : List (BitVec 8)) (hS : S.length = 32) (hE : E < 4294967296) (hF : F < 256) (hN : N < 4294967296) (hT : T.length < 65536) :
    parsePk (pkBytes S E F N T ++ r) = ⟨S, E, F, N, T, r, false⟩ := by
  have e : pkBytes S E F N T ++ r = S ++ (be E 4 ++ (be F 1 ++ (be N 4 ++ (be (T.length : Int) 2 ++ (T ++ r))))) := by unfold pkBytes groupB rowB; simp only [List.append_assoc]
  rw [e]
  unfold parsePk
  simp only [tkO_app hS, tkR_app hS, tkB_app hS, tkO_app (be_len _ 4), tkR_app (be_len _ 4), tkB_app (be_len _ 4), tkO_app (be_len _ 1), tkR_app (be_len _ 1), tkB_app (be_len _ 1), tkO_app (be_len _ 2), tkR_app (be_len _ 2), tkB_app (be_len _ 2),
    beVal_be_lt (show E < 256 ^ 4 from hE), beVal_be_lt (show F < 256 ^ 1 from hF), beVal_be_lt (show N < 256 ^ 4 from hN), beVal_be_lt (show T.length < 256 ^ 2 from hT), tkO_app (rfl : T.length = T.length), tkR_app (rfl : T.length = T.length), tkB_app (rfl : T.length = T.length)]
theorem num4_lt (ys : List (BitVec 8)) : beVal (tkO 4 ys) < 4294967296 := beVal_lt 4 _ (tkO_len _ _)
theorem num1_lt (ys : List (BitVec 8)) : beVal (tkO 1 ys) < 256 := beVal_lt 1 _ (tkO_len _ _)
theorem num2_lt (ys : List (BitVec 8)) : beVal (tkO 2 ys) < 65536 := beVal_lt 2 _ (tkO_len _ _)
theorem parse_sizes (bs : List (BitVec 8)) : (parsePk bs).sum.length = 32 ∧ (parsePk bs).epoch < 4294967296 ∧ (parsePk bs).frm < 256 ∧ (parsePk bs).number < 4294967296 ∧ (parsePk bs).text.length < 65536 := by
  have e : ∃ r1 r3 r4 r5 R D, parsePk bs = ⟨tkO 32 bs, beVal (tkO 4 r1), beVal (tkO 1 r5), beVal (tkO 4 r3), tkO (beVal (tkO 2 r4)) R, tkR (beVal (tkO 2 r4)) R, D⟩ := ⟨_, _, _, _, _, _, rfl⟩
  obtain ⟨r1, r3, r4, r5, R, D, e⟩ := e
  rw [e]
  refine ⟨tkO_len _ _, num4_lt _, num1_lt _, num4_lt _, ?_⟩
  show (tkO _ _).length < 65536
  rw [tkO_len]
  exact num2_lt _
theorem goodPk_of {bs : List (BitVec 8)} (h : goodPk bs = true) : bs = pkBytes (parsePk bs).sum (parsePk bs).epoch (parsePk bs).frm (parsePk bs).number (parsePk bs).text := by
  unfold goodPk pkGood at h
  simp only [Bool.and_eq_true, beq_iff_eq] at h
  exact h.2
theorem goodPk_more {S : List (BitVec 8)} {E F N : Nat} {T r : List (BitVec 8)} (hS : S.length = 32) (hE : E < 4294967296) (hF : F < 256) (hN : N < 4294967296) (hT : T.length < 65536) (hr : r ≠ []) : goodPk (pkBytes S E F N T ++ r) = false := by
  unfold goodPk
  rw [parse_app S E F N T r hS hE hF hN hT]
  unfold pkGood
  cases r with
  | nil => exact absurd rfl hr
  | cons a r => simp
theorem goodPk_less {S : List (BitVec 8)} {E F N : Nat} {T : List (BitVec 8)} (hS : S.length = 32) (hE : E < 4294967296) (hF : F < 256) (hN : N < 4294967296) (hT : T.length < 65536) {k : Nat} (hk : k < (pkBytes S E F N T).length) : goodPk ((pkBytes S E F N T).take k) = false := by
  cases h : goodPk ((pkBytes S E F N T).take k) with
  | false => rfl
  | true =>
    have h1 := goodPk_of h
    obtain ⟨z1, z2, z3, z4, z5⟩ := parse_sizes ((pkBytes S E F N T).take k)
    have hr : (pkBytes S E F N T).drop k ≠ [] := by intro e; have := congrArg List.length e; rw [List.length_drop] at this; simp at this; omega
    have h5 := parse_app _ _ _ _ _ ((pkBytes S E F N T).drop k) z1 z2 z3 z4 z5
    rw [← h1, List.take_append_drop] at h5
    have h4 := parse_app S E F N T [] hS hE hF hN hT
    rw [List.append_nil, h5] at h4
    exact absurd (congrArg Parsed.rest h4) hr
end Go.Proofs.Ytloglpamnalmeaa
