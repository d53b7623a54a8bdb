/- PLAIN LAWS: lists, nodes and trees that are put are read back. -/
import Derived.Test.YtloglpamnalmeaaManyNode
import Derived.Test.YtloglpamnalmeaaWels
import Derived.Test.YtloglpamnalmeaaBase
import Derived.Test.YtloglpamnalmeaaRefTree
namespace Go.Proofs.Ytloglpamnalmeaa
open Go.RowKit
set_option linter.unusedVariables false
set_option linter.unusedSimpArgs false

theorem pNum_app {N k : Nat} (h : N < 256 ^ k) (r : List (BitVec 8)) (b : Bool) : pNum k (be (N : Int) k ++ r, b) = (N, (r, b)) := by
  unfold pNum; simp only [tkO_app (be_len _ k), tkR_app (be_len _ k), tkB_app (be_len _ k), beVal_be_lt h]
theorem pTk_app {N : Nat} {xs : List (BitVec 8)} (h : xs.length = N) (r : List (BitVec 8)) (b : Bool) : pTk N (xs ++ r, b) = (xs, (r, b)) := by
  unfold pTk; simp only [tkO_app h, tkR_app h, tkB_app h]
theorem pMany_app {α : Type} (one : St → α × St) (enc : α → List (BitVec 8)) : ∀ (xs : List α) (r : List (BitVec 8)), (∀ x ∈ xs, ∀ r, one (enc x ++ r, false) = (x, (r, false))) → pMany one xs.length (xs.flatMap enc ++ r, false) = (xs, (r, false))
  | [], r, _ => by simp [pMany]
  | x :: xs, r, h => by
    rw [List.length_cons, pMany_succ _ _ rfl, List.flatMap_cons, List.append_assoc, h x (by simp) _, pMany_app one enc xs r (fun y hy => h y (by simp [hy]))]
theorem pList_app {α : Type} (one : St → α × St) (enc : α → List (BitVec 8)) (xs : List α) (r : List (BitVec 8)) (hl : xs.length < 256) (h : ∀ x ∈ xs, ∀ r, one (enc x ++ r, false) = (x, (r, false))) : pList one (be (xs.length : Int) 1 ++ (xs.flatMap enc ++ r), false) = (xs, (r, false)) := by
  unfold pList
  rw [pNum_app (show xs.length < 256 ^ 1 from hl)]
  exact pMany_app one enc xs r h
theorem outOf_int {z : Int} {m : Int} (h : outOf z m = false) : ∃ N : Nat, z = (N : Int) ∧ (N : Int) ≤ m := outOf_nat h
theorem pOne_app {z : Int} (h : outOf z 255 = false) (r : List (BitVec 8)) : pOne (be z 1 ++ r, false) = (z, (r, false)) := by
  obtain ⟨N, rfl, hN⟩ := outOf_int h
  unfold pOne
  rw [pNum_app (show N < 256 ^ 1 by omega)]
theorem outOf_more {z m m' : Int} (h : outOf z m = false) (hm : m ≤ m') : outOf z m' = false := by
  unfold outOf at *; simp at *; omega
theorem pNode_put {x : NodeD} (hx : x.Ok) (hb : nodeBad x = false) (r : List (BitVec 8)) : pNode (nodeB x ++ r, false) = (x, (r, false)) := by
  unfold nodeBad at hb
  simp only [Bool.or_eq_false_iff] at hb
  obtain ⟨⟨⟨⟨-, -⟩, h1⟩, h2⟩, h3⟩ := hb
  obtain ⟨N, hN, hNl⟩ := outOf_int h1
  obtain ⟨M, hM, hMl⟩ := outOf_int h2
  have hl : x.um.length < 256 := by omega
  have e : nodeB x ++ r = usedB x.used :: (be x.name 1 ++ (x.key ++ (x.sign ++ (x.par ++ (be x.um.length 1 ++ (onesB x.um ++ r)))))) := by unfold nodeB; simp only [List.append_assoc, List.cons_append, List.nil_append]
  have e0 : pNum 1 (nodeB x ++ r, false) = ((usedB x.used).toNat, (be x.name 1 ++ (x.key ++ (x.sign ++ (x.par ++ (be x.um.length 1 ++ (onesB x.um ++ r))))), false)) := by
    rw [e]; unfold pNum tkO tkR tkB
    simp [beVal]
  have e1 : nodeS1 (nodeB x ++ r, false) = (be x.name 1 ++ (x.key ++ (x.sign ++ (x.par ++ (be x.um.length 1 ++ (onesB x.um ++ r))))), false) := by
    unfold nodeS1; rw [e0]; cases x.used <;> rfl
  have e2 : pNum 1 (nodeS1 (nodeB x ++ r, false)) = (N, (x.key ++ (x.sign ++ (x.par ++ (be x.um.length 1 ++ (onesB x.um ++ r)))), false)) := by
    rw [e1, hN]; exact pNum_app (show N < 256 ^ 1 by omega) _ _
  have e3 : pTk 32 (nodeS2 (nodeB x ++ r, false)) = (x.key, (x.sign ++ (x.par ++ (be x.um.length 1 ++ (onesB x.um ++ r))), false)) := by
    unfold nodeS2; rw [e2]; exact pTk_app hx.key _ _
  have e4 : pTk 32 (nodeS3 (nodeB x ++ r, false)) = (x.sign, (x.par ++ (be x.um.length 1 ++ (onesB x.um ++ r)), false)) := by
    unfold nodeS3; rw [e3]; exact pTk_app hx.sign _ _
  have e5 : pTk 32 (nodeS4 (nodeB x ++ r, false)) = (x.par, (be x.um.length 1 ++ (onesB x.um ++ r), false)) := by
    unfold nodeS4; rw [e4]; exact pTk_app hx.par _ _
  have e6 : pList pOne (nodeS5 (nodeB x ++ r, false)) = (x.um, (r, false)) := by
    unfold nodeS5; rw [e5]
    refine pList_app pOne (be · 1) x.um r hl fun z hz r => pOne_app ?_ r
    unfold out31 at h3
    have := List.any_eq_false.1 h3 z hz
    exact outOf_more (m := 31) (by simpa using this) (by omega)
  rw [pNode, e0, e2, e3, e4, e5, e6, ← hN]
  obtain ⟨u, nm, k, s, p, um⟩ := x
  cases u <;> rfl
/-- a tree's bytes, from what its nodes say -/
def treeBX (xs : List NodeD) : List (BitVec 8) := be xs.length 1 ++ xs.flatMap nodeB
def treeBadX (xs : List NodeD) : Bool := !wholeB xs.length || xs.any nodeBad
theorem treeB_X (ts : List TN) : treeB ts = treeBX (ts.map (·.x)) := by unfold treeB treeBX nodesB; rw [List.length_map, List.flatMap_map]
theorem treeBad_X (ts : List TN) : treeBad ts = treeBadX (ts.map (·.x)) := by unfold treeBad treeBadX nodesBad; rw [List.length_map, List.any_map]; rfl
theorem wholeB_le {n : Nat} (h : wholeB n = true) : n ≤ 63 := by unfold wholeB at h; simp at h; omega
theorem pTree_put {xs : List NodeD} (hx : ∀ x ∈ xs, x.Ok) (hb : treeBadX xs = false) : pList pNode (treeBX xs, false) = (xs, ([], false)) := by
  unfold treeBadX at hb
  simp only [Bool.or_eq_false_iff, Bool.not_eq_false'] at hb
  have hl := wholeB_le hb.1
  have := pList_app pNode nodeB xs [] (by omega) (fun x h r => pNode_put (hx x h) (by have := List.any_eq_false.1 hb.2 x h; simpa using this) r)
  rw [List.append_nil] at this
  exact this
def goodT (bs : List (BitVec 8)) : Bool := chkGood (pList pNode (bs, false)).2.2 (pList pNode (bs, false)).2.1 bs (treeBadX (pList pNode (bs, false)).1 || decide (65536 < (treeBX (pList pNode (bs, false)).1).length)) (treeBX (pList pNode (bs, false)).1)
theorem goodT_put {xs : List NodeD} (hx : ∀ x ∈ xs, x.Ok) (hb : treeBadX xs = false) (hl : (treeBX xs).length ≤ 65536) : goodT (treeBX xs) = true := by
  unfold goodT
  rw [pTree_put hx hb]
  unfold chkGood
  rw [hb, show decide (65536 < (treeBX xs).length) = false by simp; omega]
  simp
end Go.Proofs.Ytloglpamnalmeaa
