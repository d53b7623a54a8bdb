/- PLAIN LEMMAS: in a region that draws its order, operations that only read and stand beside one another may be carried out at once, before anything is stored. No program, no conditions. -/
import Derived.Test.YtkoefhbmkmepaaaMem
import Derived.Deep.RegionHeld3
namespace Go.Proofs.Ytkoefhbmkmepaaa
open Go.RowKit
set_option linter.unusedSimpArgs false

/-- till all of R have come up, nothing but R may come up -/
def stillB (md : Region.Mode) (ops : Array Oper) : Nat → List Nat → Array Bool → Bool
  | 0, R, _ => R.isEmpty
  | f + 1, R, L => R.isEmpty || (decide (Region.ready md ops L = R) && R.all fun j => stillB md ops f (R.erase j) (L.setIfInBounds j true))
/-- no two of R touch what the other one looks at -/
def asideB (ops : Array Oper) (R : List Nat) : Bool := R.all fun i => R.all fun j => i == j || match ops[i]?, ops[j]? with
  | some x, some y => x.apart ops y
  | _, _ => false
def putR (ops : Array Oper) (V : Nat → Value) (R : List Nat) (a : Act) : Act := R.foldl (fun a j => match ops[j]? with | some o => a.put o.dst (V j) | none => a) a
def listR (R : List Nat) (L : Array Bool) : Array Bool := R.foldl (fun L j => L.setIfInBounds j true) L

section
variable {P : Program} {ops : Array Oper} {md : Region.Mode} {Q : Exit → Act → World → Prop} {S : World → Prop}
theorem asideB_spec {R : List Nat} (h : asideB ops R = true) {i j : Nat} (hi : i ∈ R) (hj : j ∈ R) (hne : i ≠ j) {x y : Oper} (hx : ops[i]? = some x) (hy : ops[j]? = some y) : x.apart ops y = true := by
  have := List.all_eq_true.1 (List.all_eq_true.1 h i hi) j hj
  rw [hx, hy] at this
  simpa [hne] using this
theorem putR_cons {V : Nat → Value} {R : List Nat} (h : asideB ops R = true) {j : Nat} (hj : j ∈ R) {o : Oper} (ho : ops[j]? = some o) (a : Act) : putR ops V (R.erase j) (a.put o.dst (V j)) = putR ops V R a := by
  unfold putR
  rw [List.Perm.foldl_eq' (List.perm_cons_erase hj) (fun x hx y hy z => ?_) a, List.foldl_cons, ho]
  by_cases hxy : x = y
  · subst hxy; rfl
  · cases ex : ops[x]? with
    | none => rfl
    | some ox =>
      cases ey : ops[y]? with
      | none => rfl
      | some oy =>
        have h1 := (Oper.apart_spec (asideB_spec h hx hy hxy ex ey)).2.1
        exact Act.put_comm z (V x) (V y) h1
theorem listR_cons {R : List Nat} {j : Nat} (hj : j ∈ R) (L : Array Bool) : listR (R.erase j) (L.setIfInBounds j true) = listR R L := by
  unfold listR
  rw [List.Perm.foldl_eq' (List.perm_cons_erase hj) (fun x _ y _ z => ?_) L, List.foldl_cons]
  by_cases hxy : x = y
  · subst hxy; rfl
  · exact (Array.setIfInBounds_comm _ _ hxy).symm ▸ rfl
theorem wpAnyH_still (V : Nat → Value) {n : Nat} {w : World} (hS : S w) (hsel : Region.noSelect ops = true) : ∀ (f : Nat) (R : List Nat) (L : Array Bool) (a : Act), R.Nodup → stillB md ops f R L = true → asideB ops R = true →
    (∀ j ∈ R, ∃ o, ops[j]? = some o ∧ YieldsIf P ops (fun w' => w' = w) o (V j) a) → wpAnyH P md ops Q S n (listR R L) (putR ops V R a) w → wpAnyH P md ops Q S (n + R.length) L a w
  | 0, R, L, a, _, hb, _, _, h => by
    obtain rfl : R = [] := List.isEmpty_iff.1 hb
    exact h
  | f + 1, R, L, a, hnd, hb, hap, hy, h => by
    by_cases hR : R = []
    · subst hR; exact h
    · have hb' : R.isEmpty = false := by cases R with
        | nil => exact absurd rfl hR
        | cons _ _ => rfl
      unfold stillB at hb
      rw [hb', Bool.false_or, Bool.and_eq_true, decide_eq_true_eq] at hb
      obtain ⟨hr, hall⟩ := hb
      obtain ⟨m, hm⟩ : ∃ m, R.length = m + 1 := ⟨R.length - 1, by have := List.length_pos_iff.2 hR; omega⟩
      rw [hm]
      show wpAnyH P md ops Q S ((n + m) + 1) L a w
      refine wpAnyH_all hr hR fun j hj => ?_
      obtain ⟨o, ho, hyj⟩ := hy j hj
      refine hyj.wpOp ho rfl ⟨hS, ?_⟩
      have hlen : (R.erase j).length = m := by rw [List.length_erase_of_mem hj, hm]; rfl
      rw [← hlen]
      refine wpAnyH_still V hS hsel f (R.erase j) _ _ (hnd.erase j) (List.all_eq_true.1 hall j hj) ?_ ?_ ?_
      · refine List.all_eq_true.2 fun x hx => List.all_eq_true.2 fun y hy' => ?_
        exact List.all_eq_true.1 (List.all_eq_true.1 hap x (List.mem_of_mem_erase hx)) y (List.mem_of_mem_erase hy')
      · intro k hk
        obtain ⟨hkj, hkR⟩ := hnd.mem_erase_iff.1 hk
        obtain ⟨ok, hok, hyk⟩ := hy k hkR
        have h3 := (Oper.apart_spec (asideB_spec hap hkR hj hkj hok ho)).2.2
        exact ⟨ok, hok, hyk.of_same (execOp_put ok (fun cs b => Region.noSelect_spec hsel k ok cs b hok) a o.dst (V j) h3) (wanted_put ok a o.dst (V j) h3)⟩
      · rw [listR_cons hj, putR_cons hap hj ho]; exact h
/-- four at once -/
theorem wpAnyH_still4 {i j k l n : Nat} {oi oj ok ol : Oper} {vi vj vk vl : Value} {L : Array Bool} {a : Act} {w : World} (hoi : ops[i]? = some oi) (hoj : ops[j]? = some oj) (hok : ops[k]? = some ok) (hol : ops[l]? = some ol) (hsel : Region.noSelect ops = true)
    (hnd : decide ([i, j, k, l].Nodup) = true) (hb : stillB md ops 4 [i, j, k, l] L = true) (hap : asideB ops [i, j, k, l] = true) (hS : S w)
    (yi : YieldsIf P ops (fun w' => w' = w) oi vi a) (yj : YieldsIf P ops (fun w' => w' = w) oj vj a) (yk : YieldsIf P ops (fun w' => w' = w) ok vk a) (yl : YieldsIf P ops (fun w' => w' = w) ol vl a)
    (h : wpAnyH P md ops Q S n ((((L.setIfInBounds i true).setIfInBounds j true).setIfInBounds k true).setIfInBounds l true) ((((a.put oi.dst vi).put oj.dst vj).put ok.dst vk).put ol.dst vl) w) : wpAnyH P md ops Q S (n + 4) L a w := by
  have hnd' := of_decide_eq_true hnd
  simp only [List.nodup_cons, List.mem_cons, List.not_mem_nil, or_false, not_or, not_false_eq_true, List.nodup_nil, and_true] at hnd'
  obtain ⟨⟨n1, n2, n3⟩, ⟨n4, n5⟩, n6⟩ := hnd'
  refine wpAnyH_still (fun x => if x = i then vi else if x = j then vj else if x = k then vk else vl) hS hsel 4 [i, j, k, l] L a (of_decide_eq_true hnd) hb hap ?_ ?_
  · intro x hx
    simp only [List.mem_cons, List.not_mem_nil, or_false] at hx
    rcases hx with rfl | rfl | rfl | rfl
    · exact ⟨oi, hoi, by rw [if_pos rfl]; exact yi⟩
    · exact ⟨oj, hoj, by rw [if_neg (Ne.symm n1), if_pos rfl]; exact yj⟩
    · exact ⟨ok, hok, by rw [if_neg (Ne.symm n2), if_neg (Ne.symm n4), if_pos rfl]; exact yk⟩
    · exact ⟨ol, hol, by rw [if_neg (Ne.symm n3), if_neg (Ne.symm n5), if_neg (Ne.symm n6)]; exact yl⟩
  · simp only [listR, putR, List.foldl_cons, List.foldl_nil, hoi, hoj, hok, hol]
    rw [if_pos trivial, if_neg (Ne.symm n1), if_pos trivial, if_neg (Ne.symm n2), if_neg (Ne.symm n4), if_pos trivial, if_neg (Ne.symm n3), if_neg (Ne.symm n5), if_neg (Ne.symm n6)]
    exact h
end
end Go.Proofs.Ytkoefhbmkmepaaa
