/- CONTRACTS: seat.Common, burrowref13.Common: the lowest node above two. -/
import Derived.Test.YtlkgklplcbmimaaDoorSeatPaths
import Derived.Laws.EntriesVeiled
namespace Go.Proofs.YtlkgklplcbmimaaDoor
open Go.RowKit
set_option linter.unusedVariables false
attribute [local go_sem] Oper.semAt_some

def holdsB (n f g p : Int) : Bool := decide (lo p n ≤ f) && decide (g ≤ hi p n)
def commonV (x y n : Int) : Int := if nodeB y n then (if nodeB x n && holdsB n (lo y n) (hi y n) x then x else ((pathL x n).find? (holdsB n (lo y n) (hi y n))).getD (-1)) else -1
def commonR (x y n : Int) : Int := if nodeB x n && nodeB y n then ((upL 8 x n).find? (fun p => aboveV p y n)).getD (-1) else -1
theorem law_common : ∀ n ∈ ([1, 2, 4, 8, 16, 32] : List Nat), ∀ x : Nat, x < 2 * n - 1 → ∀ y : Nat, y < 2 * n - 1 → (decide (commonV (x : Int) (y : Int) (n : Int) = commonR (x : Int) (y : Int) (n : Int)) && decide (commonV (x : Int) (y : Int) (n : Int) = commonV (y : Int) (x : Int) (n : Int))) = true := by decide +kernel
theorem law_chain0 : ∀ n ∈ ([1, 2, 4, 8, 16, 32] : List Nat), ∀ x : Nat, x < 2 * n - 1 → (chainB (n : Int) (x : Int) (upL 8 (x : Int) (n : Int)) && decide ((upL 8 (x : Int) (n : Int)).length ≤ 7)) = true := by decide +kernel
theorem path_none {x n : Int} (h : nodeB x n = false) : pathL x n = [] := by
  have e : parV x n = -1 := if_pos (.inl h)
  unfold pathL; rw [e]; rfl
theorem common_eq (x y n : Int) : commonV x y n = commonR x y n ∧ commonV x y n = commonV y x n := by
  cases hx : nodeB x n with
  | false =>
    have e1 : commonR x y n = -1 := by simp [commonR, hx]
    have e2 : commonV y x n = -1 := by simp [commonV, hx]
    have e3 : commonV x y n = -1 := by simp [commonV, hx, path_none hx]
    rw [e1, e2, e3]; exact ⟨rfl, rfl⟩
  | true =>
    cases hy : nodeB y n with
    | false =>
      have e1 : commonR x y n = -1 := by simp [commonR, hy]
      have e2 : commonV y x n = -1 := by simp [commonV, hy, path_none hy]
      have e3 : commonV x y n = -1 := by simp [commonV, hy]
      rw [e1, e2, e3]; exact ⟨rfl, rfl⟩
    | true =>
      obtain ⟨a, b, rfl, rfl, hb, ha⟩ := nodes x n hx
      obtain ⟨c, b', rfl, e, -, hc⟩ := nodes y _ hy
      have : b' = b := by omega
      subst this
      have := law_common b' hb a ha c hc
      simpa using this

set_option maxRecDepth 100000 in
set_option maxHeartbeats 1000000 in
theorem refCommon_any (x y n : Int) (w : World) :
    Calls Tryd.prog 26 #[.int .i64 x, .int .i64 y, .int .i64 n] w fun e w' => e = .returned (.int .i64 (commonR x y n)) ∧ w = w' := by
  have n1 := fun w => refNode_any x n w
  have n2 := fun w => refNode_any y n w
  cases hx : nodeB x n with
  | false =>
    have e : commonR x y n = -1 := by simp [commonR, hx]
    rw [e]
    simp only [hx] at n1
    have N1 := Lib.hid n1
    clear n1 n2 hx e
    go_enter Tryd.func26, Tryd.ntmps26
    go_wp2_with fail
    refine (N1.out _).mono ?_
    rintro e w' ⟨rfl, rfl⟩
    go_wp2_with fail
    go_ret
    exact ⟨rfl, rfl⟩
  | true =>
    cases hy : nodeB y n with
    | false =>
      have e : commonR x y n = -1 := by simp [commonR, hy]
      rw [e]
      simp only [hx] at n1
      simp only [hy] at n2
      have N1 := Lib.hid n1
      have N2 := Lib.hid n2
      clear n1 n2 hx hy e
      go_enter Tryd.func26, Tryd.ntmps26
      go_wp2_with fail
      refine (N1.out _).mono ?_
      rintro e w' ⟨rfl, rfl⟩
      go_wp2_with fail
      refine (N2.out _).mono ?_
      rintro e w' ⟨rfl, rfl⟩
      go_wp2_with fail
      go_ret
      exact ⟨rfl, rfl⟩
    | true =>
      have E := Lib.hid (show commonR x y n = ((upL 8 x n).find? (fun p => aboveV p y n)).getD (-1) by simp [commonR, hx, hy])
      obtain ⟨a, b, rfl, rfl, hb, ha⟩ := nodes x n hx
      have hch := law_chain0 b hb a ha
      simp only [Bool.and_eq_true, decide_eq_true_eq] at hch
      obtain ⟨hch, hlen⟩ := hch
      obtain ⟨L, hL⟩ : ∃ L, L = upL 8 (a : Int) (b : Int) := ⟨_, rfl⟩
      rw [← hL] at hch hlen E
      simp only [hx] at n1
      simp only [hy] at n2
      have N1 := Lib.hid n1
      have N2 := Lib.hid n2
      have Hch := Lib.hid hch
      clear n1 n2 hx hy hL hch hb
      go_enter Tryd.func26, Tryd.ntmps26
      go_wp2_with fail
      refine (N1.out _).mono ?_
      rintro e w' ⟨rfl, rfl⟩
      go_wp2_with fail
      refine (N2.out _).mono ?_
      rintro e w' ⟨rfl, rfl⟩
      go_wp2_with fail
      go_loop [7] (fun p => ∃ (pre rest : List Int) (q : Int), p = .int .i64 q ∧ L = pre ++ rest ∧ chainB (b : Int) q rest = true ∧ ∀ z ∈ pre, aboveV z y (b : Int) = false) (fun p => (upL 8 (intOf p) (b : Int)).length)
      case atStart => exact ⟨[], L, (a : Int), rfl, rfl, Hch.out, by simp⟩
      case round =>
        obtain ⟨pre, rest, q, rfl, hx, hch, hpre⟩ := hrel
        have hpl : pre.length + rest.length ≤ 7 := by have := congrArg List.length hx; rw [List.length_append] at this; omega
        have hu := chain_up 8 q rest hch (by omega)
        have Hu := Lib.hid hu
        have Hx := Lib.hid hx
        have Hpre := Lib.hid hpre
        clear hu hx hpre
        cases rest with
        | nil =>
          have hq := chain_nil hch
          clear hch
          go_wp2_with fail
          go_ret
          refine ⟨?_, rfl⟩
          rw [E.out, Hx.out, List.append_nil, List.find?_eq_none.2 (fun z hz => by rw [Hpre.out z hz]; simp)]
          rfl
        | cons z l =>
          obtain ⟨rfl, h0, h64, hch2⟩ := chain_cons hch
          have ca := fun w => above_any z y (b : Int) w
          have cp := fun w => refParent_any z (b : Int) w
          obtain ⟨p1, hp1⟩ : ∃ p, p = parV z (b : Int) := ⟨_, rfl⟩
          simp only [← hp1] at cp
          rw [← hp1] at hch2
          have Cp := Lib.hid cp
          have Hch2 := Lib.hid hch2
          simp only [List.length_cons] at hpl
          clear cp hch hch2 hp1
          cases hab : aboveV z y (b : Int) with
          | true =>
            simp only [hab] at ca
            have Ca := Lib.hid ca
            have Hab := Lib.hid hab
            clear ca hab
            go_wp2_with fail
            refine (Ca.out _).mono ?_
            rintro e w' ⟨rfl, rfl⟩
            go_wp2_with fail
            go_ret
            refine ⟨?_, rfl⟩
            rw [E.out, Hx.out, List.find?_append, List.find?_eq_none.2 (fun z hz => by rw [Hpre.out z hz]; simp), List.find?_cons, Hab.out]
            rfl
          | false =>
            simp only [hab] at ca
            have Ca := Lib.hid ca
            have Hab := Lib.hid hab
            clear ca hab
            go_wp2_with fail
            refine (Ca.out _).mono ?_
            rintro e w' ⟨rfl, rfl⟩
            go_wp2_with fail
            refine (Cp.out _).mono ?_
            rintro e w' ⟨rfl, rfl⟩
            go_wp2_with fail
            go_round
            case rel =>
              refine ⟨pre ++ [z], l, p1, rfl, by rw [Hx.out]; simp, Hch2.out, fun u hu => ?_⟩
              rcases List.mem_append.1 hu with h | h
              · exact Hpre.out u h
              · simp at h; subst h; exact Hab.out
            case measure =>
              show (upL 8 p1 (b : Int)).length < (upL 8 z (b : Int)).length
              rw [Hu.out, chain_up 8 p1 l Hch2.out (by omega)]; simp

set_option maxRecDepth 100000 in
set_option maxHeartbeats 1000000 in
theorem holds_any (p n f g : Int) (hp : p < 9223372036854775808) (h1 : -9223372036854775808 ≤ n) (h2 : n < 9223372036854775808) (bn bf bg : Nat) (w : World) (hT : Tab w)
    (cn : w.cell? ⟨bn, 0, none⟩ = some (.int .i64 n)) (cf : w.cell? ⟨bf, 0, none⟩ = some (.int .i64 f)) (cg : w.cell? ⟨bg, 0, none⟩ = some (.int .i64 g)) :
    Calls Tryd.prog 33 #[.int .i64 p, .pointer (some ⟨bn, 0, none⟩), .pointer (some ⟨bf, 0, none⟩), .pointer (some ⟨bg, 0, none⟩)] w fun e w' => e = .returned (.bool (holdsB n f g p)) ∧ w = w' := by
  have c1 := below_any p n hp h1 h2 w hT
  obtain ⟨a, ha⟩ : ∃ a, a = lo p n := ⟨_, rfl⟩
  obtain ⟨b, hb⟩ : ∃ b, b = hi p n := ⟨_, rfl⟩
  have E := Lib.hid (show holdsB n f g p = (decide (a ≤ f) && decide (g ≤ b)) by rw [ha, hb]; rfl)
  rw [← ha, ← hb] at c1
  have C1 := Lib.hid c1
  clear c1 ha hb hT
  by_cases h : a ≤ f
  · by_cases h' : g ≤ b
    all_goals
      go_enter Tryd.func33, Tryd.ntmps33
      go_wp2_with fail
      refine C1.out.mono ?_
      rintro e w' ⟨rfl, rfl⟩
      go_wp2_with fail
      go_ret
      exact ⟨by rw [E.out]; simp [h, h'], rfl⟩
  · go_enter Tryd.func33, Tryd.ntmps33
    go_wp2_with fail
    refine C1.out.mono ?_
    rintro e w' ⟨rfl, rfl⟩
    go_wp2_with fail
    go_ret
    exact ⟨by rw [E.out, decide_eq_false (by omega)]; rfl, rfl⟩

/-- the boxes of seat.Common -/
def CInv (s : Nat) (n f g : Int) (W : World) : Prop :=
  Boxed W s 3 (.int .i64 n) ∧ Boxed W (s + 2) 3 (.int .i64 f) ∧ Boxed W (s + 3) 3 (.int .i64 g) ∧ Boxed W (s + 4) 35 (.func (.func 33) #[] #[.pointer (some ⟨s, 0, none⟩), .pointer (some ⟨s + 2, 0, none⟩), .pointer (some ⟨s + 3, 0, none⟩)])
theorem CInv.own {s : Nat} {n f g : Int} {W W' : World} {row : Option Nat} (h : CInv s n f g W) (hg : W.grownBy W' row) (hr : ∀ r, row = some r → ∃ o : Obj, W.heap[r]? = some o ∧ o.isCells = false) : CInv s n f g W' :=
  ⟨boxed_own' h.1 hg hr, boxed_own' h.2.1 hg hr, boxed_own' h.2.2.1 hg hr, boxed_own' h.2.2.2 hg hr⟩
theorem box_at {w : World} (t : TypeId) (v : Value) {k : Nat} (h : w.heap.size = k) : Boxed (w.alloc (.cells #[v] t)) k t v := by subst h; exact Boxed.new w t v
theorem holds_cells (w : World) (n f g : Int) : let W0 := ((((w.alloc (.cells #[.int .i64 n] 3)).alloc (.cells #[.int .i64 0] 3)).alloc (.cells #[.int .i64 f] 3)).alloc (.cells #[.int .i64 g] 3)).alloc (.cells #[.func (.func 33) #[] #[.pointer (some ⟨w.heap.size, 0, none⟩), .pointer (some ⟨w.heap.size + 1 + 1, 0, none⟩), .pointer (some ⟨w.heap.size + 1 + 1 + 1, 0, none⟩)]] 35)
    W0.cell? ⟨w.heap.size, 0, none⟩ = some (.int .i64 n) ∧ W0.cell? ⟨w.heap.size + 2, 0, none⟩ = some (.int .i64 f) ∧ W0.cell? ⟨w.heap.size + 3, 0, none⟩ = some (.int .i64 g) := by
  intro W0
  refine ⟨Boxed.cell (t := 3) ?_, Boxed.cell (t := 3) ?_, Boxed.cell (t := 3) ?_⟩
  · exact ((((box_at _ _ rfl).alloc _).alloc _).alloc _).alloc _
  · exact ((box_at _ _ (by simp)).alloc _).alloc _
  · exact (box_at _ _ (by simp)).alloc _
theorem common_boxes (w : World) (x n f g : Int) : let W0 := ((((((w.alloc (.cells #[.int .i64 n] 3)).alloc (.cells #[.int .i64 0] 3)).alloc (.cells #[.int .i64 f] 3)).alloc (.cells #[.int .i64 g] 3)).alloc (.cells #[.func (.func 33) #[] #[.pointer (some ⟨w.heap.size, 0, none⟩), .pointer (some ⟨w.heap.size + 1 + 1, 0, none⟩), .pointer (some ⟨w.heap.size + 1 + 1 + 1, 0, none⟩)]] 35)).alloc (.cells #[.int .i64 x] 3)).alloc (.cells #[.int .i64 n] 3)
    CInv w.heap.size n f g W0 ∧ Boxed W0 (w.heap.size + 1) 3 (.int .i64 0) ∧ Boxed W0 (w.heap.size + 5) 3 (.int .i64 x) ∧ Boxed W0 (w.heap.size + 6) 3 (.int .i64 n) ∧ W0.heap.size = w.heap.size + 7 ∧ Below w.heap.size w W0 := by
  intro W0
  refine ⟨⟨?_, ?_, ?_, ?_⟩, ?_, ?_, ?_, ?_, ?_⟩
  · exact ((((((box_at _ _ rfl).alloc _).alloc _).alloc _).alloc _).alloc _).alloc _
  · exact ((((box_at _ _ (by simp)).alloc _).alloc _).alloc _).alloc _
  · exact (((box_at _ _ (by simp)).alloc _).alloc _).alloc _
  · exact ((box_at _ _ (by simp)).alloc _).alloc _
  · exact (((((box_at _ _ (by simp)).alloc _).alloc _).alloc _).alloc _).alloc _
  · exact (box_at _ _ (by simp)).alloc _
  · exact box_at _ _ (by simp)
  · simp [W0]
  · exact (((((((Below.refl _ _).alloc (Nat.le_refl _) _).alloc (by simp) _).alloc (by simp; omega) _).alloc (by simp; omega) _).alloc (by simp; omega) _).alloc (by simp; omega) _).alloc (by simp; omega) _

set_option maxRecDepth 100000 in
set_option maxHeartbeats 2000000 in
theorem common_any (x y n : Int) (hx : x < 9223372036854775808) (hy : y < 9223372036854775808) (h1 : -9223372036854775808 ≤ n) (h2 : n < 9223372036854775808) (w : World) (hT : Tab w) :
    Calls Tryd.prog 25 #[.int .i64 x, .int .i64 y, .int .i64 n] w fun e w' => e = .returned (.int .i64 (commonV x y n)) ∧ Below w.heap.size w w' := by
  have n1 := fun w => node_any x n h1 h2 w
  have n2 := fun w => node_any y n h1 h2 w
  have hs1 : 1 < w.heap.size := hT.lt
  have HT := Lib.hid hT
  clear hT
  cases hyn : nodeB y n with
  | false =>
    have e : commonV x y n = -1 := by simp [commonV, hyn]
    rw [e]
    simp only [hyn] at n2
    have N2 := Lib.hid n2
    clear n1 n2 hyn e
    refine (callsIn_wide (n := 9)).1 ?_
    refine callsIn_of_wp_marks Tryd.func25 rfl trivial ?_ rfl
    simp only [Tryd.ntmps25, List.size_toArray, List.length_cons, List.length_nil, Nat.reduceAdd, Nat.reduceSub, Array.replicate_succ, Array.replicate_zero, List.push_toArray, List.append_toArray, List.nil_append, List.cons_append]
    gi_wp2_with fail
    refine ⟨trivial, ?_⟩
    refine (callsIn_wide.2 (N2.out _)).mono ?_
    rintro e w' ⟨rfl, rfl⟩
    gi_wp2_with fail
    exact ⟨.int .i64 (-1), by simp [results, Tryd.f25, go_sem], rfl, by (repeat' (first | assumption | exact Below.refl _ _ | refine Below.drew ?_ | refine Below.alloc ?_ ?_ _ | omega | (simp; done) | (simp; omega)))⟩
  | true =>
    have cb := fun w ht => below_any y n hy h1 h2 w ht
    simp only [hyn] at n2
    have N2 := Lib.hid n2
    obtain ⟨f, hf⟩ : ∃ f, f = lo y n := ⟨_, rfl⟩
    obtain ⟨g, hg⟩ : ∃ g, g = hi y n := ⟨_, rfl⟩
    simp only [← hf, ← hg] at cb
    have E := Lib.hid (show commonV x y n = if nodeB x n && holdsB n f g x then x else ((pathL x n).find? (holdsB n f g)).getD (-1) by unfold commonV; rw [if_pos hyn, hf, hg])
    have CB := Lib.hid cb
    clear n2 cb hf hg hyn
    cases hxn : nodeB x n with
    | false =>
      simp only [hxn] at n1
      have N1 := Lib.hid n1
      have hf : (nodeB x n && holdsB n f g x) = false := by rw [hxn]; rfl
      have E := Lib.hid (E.out.trans (if_neg (by rw [hf]; simp)))
      clear n1 hxn hf
      refine (callsIn_wide (n := 9)).1 ?_
      refine callsIn_of_wp_marks Tryd.func25 rfl trivial ?_ rfl
      simp only [Tryd.ntmps25, List.size_toArray, List.length_cons, List.length_nil, Nat.reduceAdd, Nat.reduceSub, Array.replicate_succ, Array.replicate_zero, List.push_toArray, List.append_toArray, List.nil_append, List.cons_append]
      gi_wp2_with fail
      refine ⟨trivial, ?_⟩
      refine (callsIn_wide.2 (N2.out _)).mono ?_
      rintro e w' ⟨rfl, rfl⟩
      gi_wp2_with fail
      refine ⟨trivial, ?_⟩
      refine (callsIn_wide.2 (CB.out _ (tab_below HT.out hs1 (by (repeat' (first | assumption | exact Below.refl _ _ | refine Below.drew ?_ | refine Below.alloc ?_ ?_ _ | omega | (simp; done) | (simp; omega))))))).mono ?_
      rintro e w' ⟨rfl, rfl⟩
      gi_wp2_with fail
      refine ⟨trivial, ?_⟩
      refine (callsIn_wide.2 (N1.out _)).mono ?_
      rintro e w' ⟨rfl, rfl⟩
      gi_wp2_with fail
      refine ⟨fun _ h => (by cases h), ?_⟩
      gi_wp2_with fail
      refine ⟨trivial, ?_⟩
      refine (callsIn_wide.2 (path_any x n _)).mono ?_
      rintro e w' ⟨rfl, rfl⟩
      gi_wp2_with fail
      generalize hW0 : World.alloc _ _ = W0
      obtain ⟨hI0, hR0, hXb, hNb, hsz, hb0⟩ : CInv w.heap.size n f g W0 ∧ Boxed W0 (w.heap.size + 1) 3 (.int .i64 0) ∧ Boxed W0 (w.heap.size + 5) 3 (.int .i64 x) ∧ Boxed W0 (w.heap.size + 6) 3 (.int .i64 n) ∧ W0.heap.size = w.heap.size + 7 ∧ Below w.heap.size w W0 := by
        rw [← hW0]
        exact common_boxes w x n f g
      clear hW0
      have hTW : Tab W0 := tab_below HT.out hs1 hb0
      refine wpIn_rangeFunc_ownF rfl (by omega) (gf := 27) (lb := #[.pointer (some ⟨w.heap.size + 1 + 1 + 1 + 1 + 1, 0, none⟩), .pointer (some ⟨w.heap.size + 1 + 1 + 1 + 1 + 1 + 1, 0, none⟩)]) rfl trivial (enters_of Tryd.func27 (by kernel_rfl) rfl)
        (path_stops64 8 (by omega) x n hx h1 h2 (w.heap.size + 5) (w.heap.size + 6) w.heap.size hs1 W0 hXb.cell hNb.cell hTW) KpP.t (fun W l o o' hl ho hc hw => ⟨(Below.refl _ W).grown (grownBy_putObj' W l o') (by have := (Array.getElem?_eq_some_iff.1 ho).1; omega) (fun k e => by cases e; omega), World.putObj_heap_other (by omega)⟩) (Below.refl _ _) (fun _ => rfl)
        (fun pre W => (CInv w.heap.size n f g W ∧ (∃ v, Boxed W (w.heap.size + 1) 3 (.int .i64 v)) ∧ ∀ z ∈ pre, holdsB n f g z.1 = false) ∧ Below w.heap.size w W)
        (fun c pre W => (c = .ret ∧ ∃ pre' p, pre = pre' ++ [p] ∧ (∀ z ∈ pre', holdsB n f g z.1 = false) ∧ holdsB n f g p.1 = true ∧ Boxed W (w.heap.size + 1) 3 (.int .i64 p.1)) ∧ Below w.heap.size w W)
        (OwnFrom.and (Go.Own.from (fun s A B row hs hg hr => ⟨hs.1.own hg hr, ⟨hs.2.1.choose, boxed_own' hs.2.1.choose_spec hg hr⟩, hs.2.2⟩) _) (ownFrom_below (Nat.le_refl _) (by omega)))
        (fun c => OwnFrom.and (Go.Own.from (fun s A B row hs hg hr => by obtain ⟨h1, pre', p, h2, h3, h4, h5⟩ := hs; exact ⟨h1, pre', p, h2, h3, h4, boxed_own' h5 hg hr⟩) _) (ownFrom_below (Nat.le_refl _) (by omega)))
        ⟨⟨hI0, ⟨0, hR0⟩, by simp⟩, hb0⟩
        (fun p => { tmps := #[.int .i64 x, .int .i64 y, .int .i64 n, undef, undef, .pointer (some ⟨w.heap.size, 0, none⟩), .pointer (some ⟨w.heap.size + 1, 0, none⟩), .pointer (some ⟨w.heap.size + 1 + 1, 0, none⟩), .pointer (some ⟨w.heap.size + 1 + 1 + 1, 0, none⟩), .pointer (some ⟨w.heap.size + 1 + 1 + 1 + 1, 0, none⟩), .int .i64 p.1, .int .i64 y, .int .i64 n, .bool true, .bool false, .tuple #[.int .i64 f, .int .i64 g], .int .i64 y, .int .i64 n, .tuple #[.int .i64 f, .int .i64 g], .int .i64 f, .int .i64 g, .func (.func 33) #[] #[.pointer (some ⟨w.heap.size, 0, none⟩), .pointer (some ⟨w.heap.size + 1 + 1, 0, none⟩), .pointer (some ⟨w.heap.size + 1 + 1 + 1, 0, none⟩)], .int .i64 x, .int .i64 n, .bool false, .bool false, undef, undef, undef, .bool false, undef, .int .i64 x, .int .i64 n, .func (.func 27) #[] #[.pointer (some ⟨w.heap.size + 1 + 1 + 1 + 1 + 1, 0, none⟩), .pointer (some ⟨w.heap.size + 1 + 1 + 1 + 1 + 1 + 1, 0, none⟩)], .int .i64 p.1, undef, undef, undef, undef], defers := [] }) ?assign ?body ?done ?stop
      case assign =>
        intro l p W K hK
        gi_wp2
        exact hK
      case body =>
        rintro l pre p W ⟨⟨hI, ⟨v, hR⟩, hpre⟩, hB⟩ hN
        have HI := Lib.hid hI
        obtain ⟨bn, bf, bg, bh⟩ := hI
        have ch := holds_any p.1 n f g (by have := p.2; omega) h1 h2 w.heap.size (w.heap.size + 2) (w.heap.size + 3) W (tab_below HT.out hs1 hB) bn.cell bf.cell bg.cell
        have cR := hR.cell
        have fR := hR.frozen
        have cH := bh.cell
        have HR := Lib.hid hR
        have Hpre := Lib.hid hpre
        clear bn bf bg bh hpre hR
        cases hh : holdsB n f g p.1 with
        | true =>
          rw [hh] at ch
          have CH := Lib.hid ch
          have Hh := Lib.hid hh
          clear ch hh
          gi_wp2_with fail
          refine ⟨trivial, ?_⟩
          refine (CallsIn.inRound l (callsIn_wide.2 CH.out)).mono ?_
          rintro e w' ⟨rfl, rfl⟩
          gi_wp2_with fail
          exact ⟨KeepsOthers.setCell _ _ _, ⟨rfl, pre, p, rfl, Hpre.out, Hh.out, HR.out.set _⟩, hB.setCell (p := ⟨w.heap.size + 1, 0, none⟩) (by simp) _⟩
        | false =>
          rw [hh] at ch
          have CH := Lib.hid ch
          have Hh := Lib.hid hh
          clear ch hh
          gi_wp2_with fail
          refine ⟨trivial, ?_⟩
          refine (CallsIn.inRound l (callsIn_wide.2 CH.out)).mono ?_
          rintro e w' ⟨rfl, rfl⟩
          gi_wp2_with fail
          refine ⟨KeepsOthers.refl _, ⟨Below.refl _ _, rfl⟩, ⟨HI.out, ⟨v, HR.out⟩, fun z hz => ?_⟩, hB⟩
          rcases List.mem_append.1 hz with h | h
          · exact Hpre.out z h
          · simp at h; subst h; exact Hh.out
      case done =>
        rintro D ys W hD hys ⟨⟨hI, ⟨v, hR⟩, hpre⟩, hB⟩ hK
        have cR := hR.cell
        have fR := hR.frozen
        have Hpre := Lib.hid hpre
        have Hys := Lib.hid hys
        clear hI hR hpre hys
        gi_wp2_with fail
        have hK' := (KeepsOthers.setCell W ⟨w.heap.size + 1, 0, none⟩ (.int .i64 (-1))).same D _ hK rfl
        refine ⟨by simp, .inl ⟨_, _, rfl, run_takeDeferred hK', ?_⟩⟩
        have hc5 := cell_kept (World.cell?_setCell_same' W ⟨w.heap.size + 1, 0, none⟩ (.int .i64 (-1)) (by rw [cR]; rfl)) (grownBy_putObj' _ D (.deferred none)) (fun r e => by cases e; exact ⟨_, hK', rfl⟩)
        refine ⟨.int .i64 (-1), ?_, ?_, (hB.setCell (p := ⟨w.heap.size + 1, 0, none⟩) (by simp) _).trans (belowK_b (w := w) (Nat.le_refl _) _ D _ _ (by omega) hK' rfl rfl)⟩
        · simp [results, Tryd.f25, go_sem, hc5]
        · rw [E.out, ← Hys.out, List.find?_eq_none.2 (fun z hz => by obtain ⟨z', hz', rfl⟩ := List.mem_map.1 hz; rw [Hpre.out z' hz']; simp)]
          rfl
      case stop =>
        rintro D c pre W hD hpre ⟨⟨rfl, pre', p, rfl, h3, h4, hR⟩, hB⟩ hK
        have cR := hR.cell
        have H3 := Lib.hid h3
        have H4 := Lib.hid h4
        have Hpre := Lib.hid hpre
        clear h3 h4 hpre hR
        gi_wp2_with fail
        refine ⟨by simp, .inl ⟨_, _, rfl, run_takeDeferred hK, ?_⟩⟩
        have hc5 := cell_kept cR (grownBy_putObj' _ D (.deferred none)) (fun r e => by cases e; exact ⟨_, hK, rfl⟩)
        refine ⟨.int .i64 p.1, ?_, ?_, hB.trans (belowK_b (w := w) (Nat.le_refl _) _ D _ _ (by omega) hK rfl rfl)⟩
        · simp [results, Tryd.f25, go_sem, hc5]
        · obtain ⟨t, ht⟩ := Hpre.out
          rw [E.out, ← ht, List.map_append, List.find?_append, List.find?_append, List.find?_eq_none.2 (fun z hz => by obtain ⟨z', hz', rfl⟩ := List.mem_map.1 hz; rw [H3.out z' hz']; simp)]
          simp [H4.out]
    | true =>
      simp only [hxn] at n1
      have N1 := Lib.hid n1
      have ch := holds_any x n f g hx h1 h2 w.heap.size (w.heap.size + 2) (w.heap.size + 3)
      cases hh : holdsB n f g x with
      | true =>
        have hf : (nodeB x n && holdsB n f g x) = true := by rw [hxn, hh]; rfl
        have E := Lib.hid (E.out.trans (if_pos hf))
        simp only [hh] at ch
        have CH := Lib.hid ch
        clear n1 hxn hf hh ch
        refine (callsIn_wide (n := 9)).1 ?_
        refine callsIn_of_wp_marks Tryd.func25 rfl trivial ?_ rfl
        simp only [Tryd.ntmps25, List.size_toArray, List.length_cons, List.length_nil, Nat.reduceAdd, Nat.reduceSub, Array.replicate_succ, Array.replicate_zero, List.push_toArray, List.append_toArray, List.nil_append, List.cons_append]
        gi_wp2_with fail
        refine ⟨trivial, ?_⟩
        refine (callsIn_wide.2 (N2.out _)).mono ?_
        rintro e w' ⟨rfl, rfl⟩
        gi_wp2_with fail
        refine ⟨trivial, ?_⟩
        refine (callsIn_wide.2 (CB.out _ (tab_below HT.out hs1 (by (repeat' (first | assumption | exact Below.refl _ _ | refine Below.drew ?_ | refine Below.alloc ?_ ?_ _ | omega | (simp; done) | (simp; omega))))))).mono ?_
        rintro e w' ⟨rfl, rfl⟩
        gi_wp2_with fail
        refine ⟨trivial, ?_⟩
        refine (callsIn_wide.2 (N1.out _)).mono ?_
        rintro e w' ⟨rfl, rfl⟩
        gi_wp2_with fail
        refine ⟨trivial, ?_⟩
        refine (callsIn_wide.2 (CH.out _ (tab_below HT.out hs1 (by (repeat' (first | assumption | exact Below.refl _ _ | refine Below.drew ?_ | refine Below.alloc ?_ ?_ _ | omega | (simp; done) | (simp; omega))))) (holds_cells w n f g).1 (holds_cells w n f g).2.1 (holds_cells w n f g).2.2)).mono ?_
        rintro e w' ⟨rfl, rfl⟩
        gi_wp2_with fail
        exact ⟨.int .i64 x, by simp [results, Tryd.f25, go_sem], by rw [E.out], by (repeat' (first | assumption | exact Below.refl _ _ | refine Below.drew ?_ | refine Below.alloc ?_ ?_ _ | omega | (simp; done) | (simp; omega)))⟩
      | false =>
        have hf : (nodeB x n && holdsB n f g x) = false := by rw [hxn, hh]; rfl
        have E := Lib.hid (E.out.trans (if_neg (by rw [hf]; simp)))
        simp only [hh] at ch
        have CH := Lib.hid ch
        clear n1 hxn hf hh ch
        refine (callsIn_wide (n := 9)).1 ?_
        refine callsIn_of_wp_marks Tryd.func25 rfl trivial ?_ rfl
        simp only [Tryd.ntmps25, List.size_toArray, List.length_cons, List.length_nil, Nat.reduceAdd, Nat.reduceSub, Array.replicate_succ, Array.replicate_zero, List.push_toArray, List.append_toArray, List.nil_append, List.cons_append]
        gi_wp2_with fail
        refine ⟨trivial, ?_⟩
        refine (callsIn_wide.2 (N2.out _)).mono ?_
        rintro e w' ⟨rfl, rfl⟩
        gi_wp2_with fail
        refine ⟨trivial, ?_⟩
        refine (callsIn_wide.2 (CB.out _ (tab_below HT.out hs1 (by (repeat' (first | assumption | exact Below.refl _ _ | refine Below.drew ?_ | refine Below.alloc ?_ ?_ _ | omega | (simp; done) | (simp; omega))))))).mono ?_
        rintro e w' ⟨rfl, rfl⟩
        gi_wp2_with fail
        refine ⟨trivial, ?_⟩
        refine (callsIn_wide.2 (N1.out _)).mono ?_
        rintro e w' ⟨rfl, rfl⟩
        gi_wp2_with fail
        refine ⟨trivial, ?_⟩
        refine (callsIn_wide.2 (CH.out _ (tab_below HT.out hs1 (by (repeat' (first | assumption | exact Below.refl _ _ | refine Below.drew ?_ | refine Below.alloc ?_ ?_ _ | omega | (simp; done) | (simp; omega))))) (holds_cells w n f g).1 (holds_cells w n f g).2.1 (holds_cells w n f g).2.2)).mono ?_
        rintro e w' ⟨rfl, rfl⟩
        gi_wp2_with fail
        refine ⟨trivial, ?_⟩
        refine (callsIn_wide.2 (path_any x n _)).mono ?_
        rintro e w' ⟨rfl, rfl⟩
        gi_wp2_with fail
        generalize hW0 : World.alloc _ _ = W0
        obtain ⟨hI0, hR0, hXb, hNb, hsz, hb0⟩ : CInv w.heap.size n f g W0 ∧ Boxed W0 (w.heap.size + 1) 3 (.int .i64 0) ∧ Boxed W0 (w.heap.size + 5) 3 (.int .i64 x) ∧ Boxed W0 (w.heap.size + 6) 3 (.int .i64 n) ∧ W0.heap.size = w.heap.size + 7 ∧ Below w.heap.size w W0 := by
          rw [← hW0]
          exact common_boxes w x n f g
        clear hW0
        have hTW : Tab W0 := tab_below HT.out hs1 hb0
        refine wpIn_rangeFunc_ownF rfl (by omega) (gf := 27) (lb := #[.pointer (some ⟨w.heap.size + 1 + 1 + 1 + 1 + 1, 0, none⟩), .pointer (some ⟨w.heap.size + 1 + 1 + 1 + 1 + 1 + 1, 0, none⟩)]) rfl trivial (enters_of Tryd.func27 (by kernel_rfl) rfl)
          (path_stops64 8 (by omega) x n hx h1 h2 (w.heap.size + 5) (w.heap.size + 6) w.heap.size hs1 W0 hXb.cell hNb.cell hTW) KpP.t (fun W l o o' hl ho hc hw => ⟨(Below.refl _ W).grown (grownBy_putObj' W l o') (by have := (Array.getElem?_eq_some_iff.1 ho).1; omega) (fun k e => by cases e; omega), World.putObj_heap_other (by omega)⟩) (Below.refl _ _) (fun _ => rfl)
          (fun pre W => (CInv w.heap.size n f g W ∧ (∃ v, Boxed W (w.heap.size + 1) 3 (.int .i64 v)) ∧ ∀ z ∈ pre, holdsB n f g z.1 = false) ∧ Below w.heap.size w W)
          (fun c pre W => (c = .ret ∧ ∃ pre' p, pre = pre' ++ [p] ∧ (∀ z ∈ pre', holdsB n f g z.1 = false) ∧ holdsB n f g p.1 = true ∧ Boxed W (w.heap.size + 1) 3 (.int .i64 p.1)) ∧ Below w.heap.size w W)
          (OwnFrom.and (Go.Own.from (fun s A B row hs hg hr => ⟨hs.1.own hg hr, ⟨hs.2.1.choose, boxed_own' hs.2.1.choose_spec hg hr⟩, hs.2.2⟩) _) (ownFrom_below (Nat.le_refl _) (by omega)))
          (fun c => OwnFrom.and (Go.Own.from (fun s A B row hs hg hr => by obtain ⟨h1, pre', p, h2, h3, h4, h5⟩ := hs; exact ⟨h1, pre', p, h2, h3, h4, boxed_own' h5 hg hr⟩) _) (ownFrom_below (Nat.le_refl _) (by omega)))
          ⟨⟨hI0, ⟨0, hR0⟩, by simp⟩, hb0⟩
          (fun p => { tmps := #[.int .i64 x, .int .i64 y, .int .i64 n, undef, undef, .pointer (some ⟨w.heap.size, 0, none⟩), .pointer (some ⟨w.heap.size + 1, 0, none⟩), .pointer (some ⟨w.heap.size + 1 + 1, 0, none⟩), .pointer (some ⟨w.heap.size + 1 + 1 + 1, 0, none⟩), .pointer (some ⟨w.heap.size + 1 + 1 + 1 + 1, 0, none⟩), .int .i64 p.1, .int .i64 y, .int .i64 n, .bool true, .bool false, .tuple #[.int .i64 f, .int .i64 g], .int .i64 y, .int .i64 n, .tuple #[.int .i64 f, .int .i64 g], .int .i64 f, .int .i64 g, .func (.func 33) #[] #[.pointer (some ⟨w.heap.size, 0, none⟩), .pointer (some ⟨w.heap.size + 1 + 1, 0, none⟩), .pointer (some ⟨w.heap.size + 1 + 1 + 1, 0, none⟩)], .int .i64 x, .int .i64 n, .bool true, .bool true, .func (.func 33) #[] #[.pointer (some ⟨w.heap.size, 0, none⟩), .pointer (some ⟨w.heap.size + 1 + 1, 0, none⟩), .pointer (some ⟨w.heap.size + 1 + 1 + 1, 0, none⟩)], .int .i64 x, .bool false, .bool false, undef, .int .i64 x, .int .i64 n, .func (.func 27) #[] #[.pointer (some ⟨w.heap.size + 1 + 1 + 1 + 1 + 1, 0, none⟩), .pointer (some ⟨w.heap.size + 1 + 1 + 1 + 1 + 1 + 1, 0, none⟩)], .int .i64 p.1, undef, undef, undef, undef], defers := [] }) ?assign ?body ?done ?stop
        case assign =>
          intro l p W K hK
          gi_wp2
          exact hK
        case body =>
          rintro l pre p W ⟨⟨hI, ⟨v, hR⟩, hpre⟩, hB⟩ hN
          have HI := Lib.hid hI
          obtain ⟨bn, bf, bg, bh⟩ := hI
          have ch := holds_any p.1 n f g (by have := p.2; omega) h1 h2 w.heap.size (w.heap.size + 2) (w.heap.size + 3) W (tab_below HT.out hs1 hB) bn.cell bf.cell bg.cell
          have cR := hR.cell
          have fR := hR.frozen
          have cH := bh.cell
          have HR := Lib.hid hR
          have Hpre := Lib.hid hpre
          clear bn bf bg bh hpre hR
          cases hh : holdsB n f g p.1 with
          | true =>
            rw [hh] at ch
            have CH := Lib.hid ch
            have Hh := Lib.hid hh
            clear ch hh
            gi_wp2_with fail
            refine ⟨trivial, ?_⟩
            refine (CallsIn.inRound l (callsIn_wide.2 CH.out)).mono ?_
            rintro e w' ⟨rfl, rfl⟩
            gi_wp2_with fail
            exact ⟨KeepsOthers.setCell _ _ _, ⟨rfl, pre, p, rfl, Hpre.out, Hh.out, HR.out.set _⟩, hB.setCell (p := ⟨w.heap.size + 1, 0, none⟩) (by simp) _⟩
          | false =>
            rw [hh] at ch
            have CH := Lib.hid ch
            have Hh := Lib.hid hh
            clear ch hh
            gi_wp2_with fail
            refine ⟨trivial, ?_⟩
            refine (CallsIn.inRound l (callsIn_wide.2 CH.out)).mono ?_
            rintro e w' ⟨rfl, rfl⟩
            gi_wp2_with fail
            refine ⟨KeepsOthers.refl _, ⟨Below.refl _ _, rfl⟩, ⟨HI.out, ⟨v, HR.out⟩, fun z hz => ?_⟩, hB⟩
            rcases List.mem_append.1 hz with h | h
            · exact Hpre.out z h
            · simp at h; subst h; exact Hh.out
        case done =>
          rintro D ys W hD hys ⟨⟨hI, ⟨v, hR⟩, hpre⟩, hB⟩ hK
          have cR := hR.cell
          have fR := hR.frozen
          have Hpre := Lib.hid hpre
          have Hys := Lib.hid hys
          clear hI hR hpre hys
          gi_wp2_with fail
          have hK' := (KeepsOthers.setCell W ⟨w.heap.size + 1, 0, none⟩ (.int .i64 (-1))).same D _ hK rfl
          refine ⟨by simp, .inl ⟨_, _, rfl, run_takeDeferred hK', ?_⟩⟩
          have hc5 := cell_kept (World.cell?_setCell_same' W ⟨w.heap.size + 1, 0, none⟩ (.int .i64 (-1)) (by rw [cR]; rfl)) (grownBy_putObj' _ D (.deferred none)) (fun r e => by cases e; exact ⟨_, hK', rfl⟩)
          refine ⟨.int .i64 (-1), ?_, ?_, (hB.setCell (p := ⟨w.heap.size + 1, 0, none⟩) (by simp) _).trans (belowK_b (w := w) (Nat.le_refl _) _ D _ _ (by omega) hK' rfl rfl)⟩
          · simp [results, Tryd.f25, go_sem, hc5]
          · rw [E.out, ← Hys.out, List.find?_eq_none.2 (fun z hz => by obtain ⟨z', hz', rfl⟩ := List.mem_map.1 hz; rw [Hpre.out z' hz']; simp)]
            rfl
        case stop =>
          rintro D c pre W hD hpre ⟨⟨rfl, pre', p, rfl, h3, h4, hR⟩, hB⟩ hK
          have cR := hR.cell
          have H3 := Lib.hid h3
          have H4 := Lib.hid h4
          have Hpre := Lib.hid hpre
          clear h3 h4 hpre hR
          gi_wp2_with fail
          refine ⟨by simp, .inl ⟨_, _, rfl, run_takeDeferred hK, ?_⟩⟩
          have hc5 := cell_kept cR (grownBy_putObj' _ D (.deferred none)) (fun r e => by cases e; exact ⟨_, hK, rfl⟩)
          refine ⟨.int .i64 p.1, ?_, ?_, hB.trans (belowK_b (w := w) (Nat.le_refl _) _ D _ _ (by omega) hK rfl rfl)⟩
          · simp [results, Tryd.f25, go_sem, hc5]
          · obtain ⟨t, ht⟩ := Hpre.out
            rw [E.out, ← ht, List.map_append, List.find?_append, List.find?_append, List.find?_eq_none.2 (fun z hz => by obtain ⟨z', hz', rfl⟩ := List.mem_map.1 hz; rw [H3.out z' hz']; simp)]
            simp [H4.out]
end Go.Proofs.YtlkgklplcbmimaaDoor
