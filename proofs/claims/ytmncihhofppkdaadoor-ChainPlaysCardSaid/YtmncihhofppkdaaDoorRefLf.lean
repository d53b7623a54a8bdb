/- CONTRACT: burrowref13.Path (split off XSeatPath). -/
import Derived.Test.YtmncihhofppkdaaDoorSeatFp
import Derived.Test.YtmncihhofppkdaaDoorBase
import Derived.Test.YtmncihhofppkdaaDoorRefDs
import Derived.Test.YtmncihhofppkdaaDoorOnceP
import Derived.Test.YtmncihhofppkdaaDoorNewG
namespace Go.Proofs.YtmncihhofppkdaaDoor
open Go.RowKit
set_option linter.unusedVariables false
set_option linter.unusedSimpArgs false
attribute [local go_sem] Oper.semAt_some
theorem infoInt : (Tryd.prog.info? 3).map (fun i => (i.zero, i.size, i.bytes)) = some (some (.int .i64 0), 1, 8) := by kernel_rfl
def i64v (z : Int) : Value := .int .i64 z
theorem i64v_one (x : Int) : (i64v x).oneCell' = true := rfl
/-- the nodes above: the chain of parents from p on -/
def upL : Nat → Int → Int → List Int
  | 0, _, _ => []
  | f + 1, p, n => if p < 0 then [] else p :: upL f (parV p n) n
def pathL (x n : Int) : List Int := upL 8 (parV x n) n
def chainB (n : Int) : Int → List Int → Bool
  | p, [] => decide (p < 0)
  | p, q :: l => q == p && decide (0 ≤ p) && decide (p < 64) && chainB n (parV p n) l
theorem law_chain : ∀ n ∈ ([1, 2, 4, 8, 16, 32] : List Nat), ∀ x : Nat, x < 2 * n - 1 → (chainB (n : Int) (parV (x : Int) (n : Int)) (pathL (x : Int) (n : Int)) && decide ((pathL (x : Int) (n : Int)).length ≤ 6)) = true := by decide +kernel
theorem chain_of (x n : Int) : chainB n (parV x n) (pathL x n) = true ∧ (pathL x n).length ≤ 6 := by
  cases hn : nodeB x n with
  | false =>
    have e : parV x n = -1 := if_pos (.inl hn)
    have e2 : pathL x n = [] := by unfold pathL; rw [e]; rfl
    rw [e, e2]; exact ⟨rfl, by simp⟩
  | true =>
    obtain ⟨a, b, rfl, rfl, hb, ha⟩ := nodes x n hn
    have := law_chain b hb a ha
    simpa using this
theorem chain_nil {n p : Int} (h : chainB n p [] = true) : p < 0 := by simpa [chainB] using h
theorem chain_cons {n p q : Int} {l : List Int} (h : chainB n p (q :: l) = true) : q = p ∧ 0 ≤ p ∧ p < 64 ∧ chainB n (parV p n) l = true := by
  simp only [chainB, Bool.and_eq_true, beq_iff_eq, decide_eq_true_eq] at h
  exact ⟨h.1.1.1, h.1.1.2, h.1.2, h.2⟩
theorem chain_up {n : Int} : ∀ (f : Nat) (p : Int) (l : List Int), chainB n p l = true → l.length < f → upL f p n = l
  | 0, _, _, _, h => absurd h (by omega)
  | f + 1, p, [], h, _ => by unfold upL; rw [if_pos (chain_nil h)]
  | f + 1, p, q :: l, h, hl => by
    obtain ⟨rfl, h0, _, hc⟩ := chain_cons h
    simp only [List.length_cons] at hl
    unfold upL
    rw [if_neg (by omega), chain_up f _ l hc (by omega)]

set_option maxRecDepth 100000 in
set_option maxHeartbeats 1000000 in
theorem refPath_any (x n : Int) (w : World) :
    Calls Tryd.prog 29 #[.int .i64 x, .int .i64 n] w fun e w' => ∃ v, e = .returned v ∧ Own i64v w' w.heap.size 3 v (pathL x n) ∧ Below w.heap.size w w' := by
  obtain ⟨i0, hi0, hz0, hz1, hz2⟩ := info_parts infoInt
  obtain ⟨hch, hlen⟩ := chain_of x n
  obtain ⟨L, hL⟩ : ∃ L, L = pathL x n := ⟨_, rfl⟩
  rw [← hL] at hch hlen ⊢
  obtain ⟨p0, hp0⟩ : ∃ p, p = parV x n := ⟨_, rfl⟩
  have c0 := fun w => refParent_any x n w
  simp only [← hp0] at c0
  rw [← hp0] at hch
  have C0 := Lib.hid c0
  have Hch := Lib.hid hch
  clear c0 hch hL hp0
  go_enter Tryd.func29, Tryd.ntmps29
  go_wp2_with (go_at_call 42; refine (C0.out _).mono ?_; rintro e w' ⟨rfl, rfl⟩)
  go_loopw [5, 6] (fun v p wr => ∃ (pre rest : List Int) (q : Int), p = .int .i64 q ∧ L = pre ++ rest ∧ chainB n q rest = true ∧ Own i64v wr w.heap.size 3 v pre ∧ Below w.heap.size w wr) (fun _ p _ => (upL 8 (intOf p) n).length)
  case atStart => exact ⟨[], L, p0, rfl, rfl, Hch.out, Own.nil_ _ _ _ _, Below.refl _ _⟩
  case round =>
    obtain ⟨pre, rest, q, rfl, hx, hch, hown, hb⟩ := hrel
    have hz := hb.size
    have hpl : pre.length + rest.length ≤ 6 := by have := congrArg List.length hx; rw [List.length_append] at this; omega
    have hu := chain_up 8 q rest hch (by omega)
    have Hu := Lib.hid hu
    have Hx := Lib.hid hx
    clear hu hx
    cases rest with
    | nil =>
      have hq := chain_nil hch
      clear hch
      go_wp2
      go_ret
      exact ⟨_, rfl, hown.cast (by rw [Hx.out, List.append_nil]), hb⟩
    | cons y l =>
      obtain ⟨rfl, h0, h64, hch2⟩ := chain_cons hch
      have cp := fun w => refParent_any y n w
      obtain ⟨p1, hp1⟩ : ∃ p, p = parV y n := ⟨_, rfl⟩
      simp only [← hp1] at cp
      rw [← hp1] at hch2
      have Cp := Lib.hid cp
      have Hch2 := Lib.hid hch2
      simp only [List.length_cons] at hpl
      clear cp hch hch2 hp1
      go_wp2_with (first
        | (at_builtin; refine wpList_append_rd rfl _ _ 43 rfl i64v_one w.heap.size 3 i0 _ 8 Tryd.underlying43 hi0 hz0 hz1 hz2 rfl _ pre rfl (hown.alloc _) (wr.heap.size + 1) _ 1 1 [y] rfl rfl (Rd.new i64v _ _ [y]) (by simp [maxLen]; omega) (by simp; omega) (by simp; omega) ?_; intro v7 w7 hown7 hg7 hbb7)
        | (go_at_call 42; refine (Cp.out _).mono ?_; rintro e w' ⟨rfl, rfl⟩))
      go_roundw
      case rel => exact ⟨pre ++ [y], l, p1, rfl, by rw [Hx.out]; simp, Hch2.out, hown7, hbb7 _ _ (Nat.le_refl _) (by (repeat' (first | assumption | exact Below.refl _ _ | refine Below.drew ?_ | refine Below.alloc ?_ ?_ _ | omega | (simp; done) | (simp; omega))))⟩
      case measure =>
        show (upL 8 p1 n).length < (upL 8 y n).length
        rw [Hu.out, chain_up 8 p1 l Hch2.out (by omega)]; simp
end Go.Proofs.YtmncihhofppkdaaDoor

/- CONTRACT: burrowref19.Leaf, and that it answers the tree's leaves. -/
namespace Go.Proofs.YtmncihhofppkdaaDoor
open Go.RowKit
set_option linter.unusedVariables false
set_option linter.unusedSimpArgs false

/-- one step down: which way the path goes on -/
def stepS (path : List Int) (x : Int) (r : Nat) (s : List (BitVec 8)) : List (BitVec 8) := if (if r = 0 then x else path.getD (r - 1) 0) = childL (path.getD r 0) then derV s lLeft else derV s lRight
def downS (path : List Int) (x : Int) : Nat → List (BitVec 8) → List (BitVec 8)
  | 0, s => s
  | r + 1, s => downS path x r (stepS path x r s)
def leafS (n i : Nat) (s : List (BitVec 8)) : List (BitVec 8) := downS (pathL (2 * (i : Int)) n) (2 * (i : Int)) (pathL (2 * (i : Int)) n).length s
theorem stepS_len (path : List Int) (x : Int) (r : Nat) (s : List (BitVec 8)) : (stepS path x r s).length = 32 := by
  unfold stepS
  generalize (if r = 0 then x else path.getD (r - 1) 0) = u
  by_cases h : u = childL (path.getD r 0)
  · rw [if_pos h]; exact derV_len _ _
  · rw [if_neg h]; exact derV_len _ _
theorem downS_len (path : List Int) (x : Int) : ∀ (r : Nat) (s : List (BitVec 8)), s.length = 32 → (downS path x r s).length = 32
  | 0, s, h => by rw [downS]; exact h
  | r + 1, s, h => by rw [downS]; exact downS_len path x r _ (stepS_len _ _ _ _)
/-- the ways, from the root down -/
def waysL (path : List Int) (x : Int) : Nat → List Bool
  | 0 => []
  | r + 1 => decide ((if r = 0 then x else path.getD (r - 1) 0) = childL (path.getD r 0)) :: waysL path x r
def goS : List Bool → List (BitVec 8) → List (BitVec 8)
  | [], s => s
  | b :: l, s => goS l (if b then derV s lLeft else derV s lRight)
theorem downS_go (path : List Int) (x : Int) : ∀ (r : Nat) (s : List (BitVec 8)), downS path x r s = goS (waysL path x r) s
  | 0, s => rfl
  | r + 1, s => by
    rw [downS, downS_go path x r, waysL, goS]
    unfold stepS
    by_cases h : (if r = 0 then x else path.getD (r - 1) 0) = childL (path.getD r 0) <;> simp [h]
/-- the ways to leaf i of 2 ^ k: the bits from the top -/
def bitsL : Nat → Nat → List Bool
  | 0, _ => []
  | k + 1, i => decide (i < 2 ^ k) :: bitsL k (if i < 2 ^ k then i else i - 2 ^ k)
theorem ways_bits : ∀ k : Nat, k ≤ 5 → ∀ i : Nat, i < 2 ^ k → waysL (pathL (2 * (i : Int)) ((2 ^ k : Nat) : Int)) (2 * (i : Int)) (pathL (2 * (i : Int)) ((2 ^ k : Nat) : Int)).length = bitsL k i := by
  have h : ∀ k : Nat, k < 6 → ∀ i : Nat, i < 2 ^ k → waysL (pathL (2 * (i : Int)) ((2 ^ k : Nat) : Int)) (2 * (i : Int)) (pathL (2 * (i : Int)) ((2 ^ k : Nat) : Int)).length = bitsL k i := by decide +kernel
  exact fun k hk i hi => h k (by omega) i hi
theorem secs_go : ∀ (k i : Nat) (s : List (BitVec 8)), i < 2 ^ k → (secs k s)[i]? = some (goS (bitsL k i) s)
  | 0, i, s, h => by
    have : i = 0 := by simpa using h
    subst this; rfl
  | k + 1, i, s, h => by
    have e : secs (k + 1) s = secs k (derV s lLeft) ++ secs k (derV s lRight) := rfl
    rw [e, bitsL, goS]
    rw [Nat.pow_succ] at h
    by_cases hi : i < 2 ^ k
    · rw [List.getElem?_append_left (by rw [secs_len]; exact hi), secs_go k i _ hi]; simp [hi]
    · rw [List.getElem?_append_right (by rw [secs_len]; omega), secs_len, secs_go k (i - 2 ^ k) _ (by omega)]; simp [hi]
theorem secs_leaf (k : Nat) (hk : k ≤ 5) (i : Nat) (hi : i < 2 ^ k) (s : List (BitVec 8)) : (secs k s)[i]? = some (leafS (2 ^ k) i s) := by
  rw [secs_go k i s hi]
  unfold leafS
  rw [downS_go, ways_bits k hk i hi]
end Go.Proofs.YtmncihhofppkdaaDoor

/- CONTRACT: burrowref19.Leaf. -/
namespace Go.Proofs.YtmncihhofppkdaaDoor
open Go.RowKit
set_option linter.unusedVariables false
set_option linter.unusedSimpArgs false

theorem path_bounds (x n : Int) : (pathL x n).length ≤ 6 ∧ ∀ p ∈ pathL x n, 0 ≤ p ∧ p < 64 := by
  have h := chain_of x n
  refine ⟨h.2, ?_⟩
  have h1 := h.1
  generalize pathL x n = L at h1
  generalize parV x n = q at h1
  induction L generalizing q with
  | nil => intro p hp; cases hp
  | cons y l ih =>
    obtain ⟨rfl, h0, h64, hc⟩ := chain_cons h1
    intro p hp
    rcases List.mem_cons.1 hp with rfl | hp
    · exact ⟨h0, h64⟩
    · exact ih _ hc p hp

set_option maxRecDepth 100000 in
set_option maxHeartbeats 4000000 in
theorem refLeaf_any (w : World) (s : List (BitVec 8)) (hs : s.length = 32) (n i : Nat) (hn : n ≤ 32) (hi : i < 32) :
    Calls Tryd.prog 10 #[arrV b8 s, .int .i64 (n : Int), .int .i64 (i : Int)] w fun e w' => e = .returned (arrV b8 (leafS n i s)) ∧ Below w.heap.size w w' := by
  obtain ⟨i0, hi0, hz0, hz1, hz2⟩ := info_parts infoInt
  have HS := Lib.hid hs
  obtain ⟨D, hD⟩ : ∃ D, D = leafS n i s := ⟨_, rfl⟩
  have HDl := Lib.hid (show D.length = 32 by rw [hD]; exact downS_len _ _ _ _ hs)
  obtain ⟨x, hx⟩ : ∃ x : Nat, x = 2 * i := ⟨_, rfl⟩
  have hxi : (2 : Int) * (i : Int) = (x : Int) := by omega
  obtain ⟨L, hL⟩ : ∃ L, L = pathL (x : Int) n := ⟨_, rfl⟩
  have hb := path_bounds (x : Int) n
  rw [← hL] at hb
  have HD := Lib.hid (show D = downS L (x : Int) L.length s by rw [hD]; unfold leafS; rw [hxi, ← hL])
  have hp := refPath_any (x : Int) n
  rw [← hL] at hp
  have HP := Lib.hid hp
  have HBd := Lib.hid hb.2
  have hLl := hb.1
  obtain ⟨w2, hw2⟩ : ∃ w2, w2 = (w.alloc (.cells (s.map b8).toArray 23)).alloc (.cells ((List.replicate 32 0#8).map b8).toArray 23) := ⟨_, rfl⟩
  have HA2 := Lib.hid (show Arr b8 w2 w.heap.size 23 s by rw [hw2]; exact (Arr.new b8 w 23 s).alloc _)
  have HZ2 := Lib.hid (show Arr b8 w2 (w.heap.size + 1) 23 (List.replicate 32 0#8) by
    rw [hw2]; have h := Arr.new b8 (w.alloc (.cells (s.map b8).toArray 23)) 23 (List.replicate 32 0#8); rw [World.size_alloc] at h; exact h)
  have HB2 := Lib.hid (show Below w.heap.size w w2 by rw [hw2]; exact ((Below.refl _ w).alloc (Nat.le_refl _) _).alloc (by simp) _)
  have hzw : w2.heap.size = w.heap.size + 2 := by rw [hw2]; simp
  have hzb : w.heap.size + 1 < w2.heap.size := by omega
  have HW2 := Lib.hid hw2
  rw [← hD, arrV_mk, arrV_mk]
  have HXx := Lib.hid hx
  have hx32 : x < 64 := by omega
  clear hs hD hw2 hzw hp hb hL hx
  go_enter Tryd.func10, Tryd.ntmps10
  go_upto_region 1 with fail
  have hw2 := HW2.out
  simp only [show ((List.replicate 32 0#8).map b8).toArray = #[Value.int .u8 0, Value.int .u8 0, Value.int .u8 0, Value.int .u8 0, Value.int .u8 0, Value.int .u8 0, Value.int .u8 0, Value.int .u8 0, Value.int .u8 0, Value.int .u8 0, Value.int .u8 0, Value.int .u8 0, Value.int .u8 0, Value.int .u8 0, Value.int .u8 0, Value.int .u8 0, Value.int .u8 0, Value.int .u8 0, Value.int .u8 0, Value.int .u8 0, Value.int .u8 0, Value.int .u8 0, Value.int .u8 0, Value.int .u8 0, Value.int .u8 0, Value.int .u8 0, Value.int .u8 0, Value.int .u8 0, Value.int .u8 0, Value.int .u8 0, Value.int .u8 0, Value.int .u8 0] from rfl] at hw2
  rw [← hw2]
  clear hw2
  go_wp2_with fail
  refine (HP.out w2).mono ?_
  rintro e w3 ⟨v, rfl, ho, hb3⟩
  obtain ⟨m, hm⟩ : ∃ m, m = L.length := ⟨_, rfl⟩
  obtain ⟨A3, c3, rfl, -, -, -, -⟩ := ho.shape' (n := m) hm.symm
  have HO3 := Lib.hid ho
  have HM := Lib.hid hm
  have hm6 : m ≤ 6 := by omega
  have hs3 := hb3.size
  have HB3 := Lib.hid (HB2.out.trans (hb3.mono HB2.out.size))
  have HA3 := Lib.hid (HA2.out.below hb3 (by omega))
  have HZ3 := Lib.hid (HZ2.out.below hb3 (by omega))
  have HR := Lib.hid (show ∀ W : World, Rd i64v (W.alloc (.cells #[.int .i64 0] 3)) (W.heap.size + 1) (some ⟨W.heap.size, 0, none⟩) [0] from fun W => Rd.new i64v W 3 [0])
  have hmi : (m : Int) + 1 - 1 = (m : Int) := by omega
  clear ho hm hb3 hLl HA2 HZ2
  go_upto_region 3 with (at_builtin; (refine wpList_append_rd rfl (.tmp 16) (.tmp 17) 43 rfl i64v_one w2.heap.size 3 i0 _ 8 Tryd.underlying43 hi0 hz0 hz1 hz2 rfl _ L rfl (HO3.out.alloc _) (w3.heap.size + 1) _ 1 1 [0] rfl rfl (HR.out w3) (by have := HM.out; simp [maxLen]; omega) (by have := HM.out; simp; omega) (by simp; omega) ?_; intro v4 w4 ho4 hg4 hbb4; obtain ⟨A4, c4, rfl, -, -, hc4, -⟩ := ho4.shape' (n := m + 1) (by rw [List.length_append, HM.out]; rfl); have HO4 := Lib.hid ho4; have HG4 := Lib.hid (hbb4 w2.heap.size w3 (Nat.le_refl _) ((Below.refl _ w3).mono hs3 |>.alloc hs3 _)); clear ho4 hg4 hbb4))
  have HL4 := Lib.hid (show Own i64v w4 w2.heap.size 3 (.slice A4 m c4) L from (HO4.out.short m (Nat.le_succ m)).cast (by rw [HM.out]; simp))
  have HA4 := Lib.hid (HA3.out.below HG4.out (by omega))
  have HZ4 := Lib.hid (HZ3.out.below HG4.out (by omega))
  have HB4 := Lib.hid (HB3.out.trans (HG4.out.mono (by omega)))
  have hs4 := HG4.out.size
  have HGl := Lib.hid (show ∀ b, (Value.slice A4 m c4).ownBlock = some b → b < w4.heap.size from fun b e => (HL4.out.lt b e).2)
  have HT4 := Lib.hid (Arr.new b8 w4 23 (List.replicate 32 0#8))
  go_upto_region 4 with (first
    | (refine wpList_load_arr rfl 23 (.tmp 3) rfl w.heap.size rfl _ s HA4.out _ Tryd.underlying23 rfl (by rw [size32, HS.out]) ?_)
    | (refine wpList_store_arr rfl 23 (.tmp 8) (.tmp 24) rfl w4.heap.size rfl s rfl _ _ HT4.out (by rw [HS.out]; rfl) (by rw [size32, HS.out]) b8_one' ?_; intro w5 hx5 hg5; have HX5 := Lib.hid hx5; have HL5 := Lib.hid ((HL4.out.alloc (.cells ((List.replicate 32 0#8).map b8).toArray 23)).kept' hg5 (fun b e hv => by cases e; exact absurd (HL4.out.lt _ hv).2 (by omega))); have HZ5 := Lib.hid ((HZ4.out.alloc (.cells ((List.replicate 32 0#8).map b8).toArray 23)).grown hg5 (fun e => by injection e with e; omega)); have HB5 := Lib.hid ((HB4.out.alloc HB4.out.size (.cells ((List.replicate 32 0#8).map b8).toArray 23)).grown hg5 (by have := HB4.out.size; simp; omega) (fun k e => by cases e; exact HB4.out.size)); clear hx5 hg5))
  go_wp2_with fail
  go_loopw [9] (fun v wr => ∃ (r : Nat) (z : List (BitVec 8)), v = .int .i64 ((r : Int) - 1) ∧ r ≤ m ∧ z.length = 32 ∧ Arr b8 wr w4.heap.size 23 z ∧ downS L (x : Int) r z = D ∧ Arr b8 wr (w.heap.size + 1) 23 (List.replicate 32 0#8) ∧ Own i64v wr w2.heap.size 3 (.slice A4 m c4) L ∧ Below w.heap.size w wr) (fun v _ => (intOf v + 1).toNat)
  case atStart => exact ⟨m, s, rfl, Nat.le_refl _, HS.out, HX5.out, by rw [HM.out]; exact HD.out.symm, HZ5.out, HL5.out, HB5.out⟩
  case round =>
    obtain ⟨r, z, rfl, hr, hzl, ha, hd, hzr, ho, hb⟩ := hrel
    have HZl := Lib.hid hzl
    have HA := Lib.hid ha
    have HZ := Lib.hid hzr
    have HO := Lib.hid ho
    have HB := Lib.hid hb
    clear hzl ha hzr hb
    cases r with
    | zero =>
      have hzD : z = D := by rw [downS] at hd; exact hd
      subst hzD
      rw [show ((0 : Nat) : Int) - 1 = -1 from rfl]
      clear ho hd
      go_upto_region 14 with fail
      refine wp_region_lit ?_
      refine wpList_load_arr rfl 23 (.tmp 8) rfl w4.heap.size rfl _ z HA.out _ Tryd.underlying23 rfl (by rw [size32, HZl.out]) ?_
      refine wpList_store_arr rfl 23 (.tmp 6) (.tmp 56) rfl (w.heap.size + 1) rfl z rfl _ _ HZ.out (by rw [HZl.out]; rfl) (by rw [size32, HZl.out]) b8_one' ?_
      intro w6 hx6 hg6
      go_wp2_with fail
      refine bodyPost_ret (v := .agg (z.map b8).toArray) (results_arr (g := w.heap.size + 1) rfl _ _ _ _ _ rfl hx6 Tryd.underlying23 rfl (by rw [size32, HZl.out])) rfl ?_
      exact ⟨rfl, HB.out.grown hg6 HB.out.size (fun k e => by cases e; omega)⟩
    | succ r =>
      have HDn := Lib.hid (show downS L (x : Int) r (stepS L (x : Int) r z) = D by rw [downS] at hd; exact hd)
      clear hd
      rw [show ((r + 1 : Nat) : Int) - 1 = (r : Int) by omega]
      obtain ⟨g, cg, eg, hgb, hgl, -⟩ := ho.form' HM.out.symm (by omega)
      injection eg with eg1 eg2 eg3
      subst eg1
      clear ho eg2 eg3
      have hg4 : g < w4.heap.size := HGl.out g rfl
      have hrm : (r : Int) < (m : Int) := by omega
      have hLr : r < L.length := by rw [← HM.out]; omega
      have c1 := (HO.out.at_ (k := r) hLr).1
      have hpb := HBd.out _ (List.getElem_mem hLr)
      have hpe : L[r] = L.getD r 0 := by rw [List.getD, List.getElem?_eq_getElem hLr]; rfl
      rw [hpe] at c1 hpb
      unfold i64v at c1
      have hch := refChildren_any (L.getD r 0) (by omega) wr
      obtain ⟨pp, hpp⟩ : ∃ pp, pp = L.getD r 0 := ⟨_, rfl⟩
      rw [← hpp] at c1 hpb hch
      obtain ⟨cl, hcl⟩ : ∃ cl, cl = childL pp := ⟨_, rfl⟩
      rw [← hcl] at hch
      generalize childR pp = cr at hch
      have HCh := Lib.hid hch
      have HPp := Lib.hid hpp
      have HCl := Lib.hid hcl
      clear hch hpe hpp hcl
      by_cases hr0 : r = 0
      · subst hr0
        rw [show (((0 : Nat)) : Int) = 0 from rfl]
        by_cases hc : (x : Int) = cl
        · have hce : ((x : Int) == cl) = true := by simpa using hc
          have Hc := Lib.hid hc
          clear hc
          have HDv := Lib.hid (refDerive_any wr z HZl.out ⟨#[108, 101, 102, 116]⟩ lLeft strLeft (by decide))
          rw [arrV_mk, arrV_mk] at HDv
          go_wp2_with (first
            | (go_at_call 30; refine HCh.out.mono ?_; rintro e w' ⟨rfl, rfl⟩)
            | (refine wpList_load_arr rfl 23 (.tmp 8) rfl w4.heap.size rfl _ z HA.out _ Tryd.underlying23 rfl (by rw [size32, HZl.out]) ?_)
            | (go_at_call 14; refine (HDv.out).mono ?_; rintro e w6 ⟨rfl, hb6⟩; have HB6 := Lib.hid hb6; have HA6 := Lib.hid (HA.out.below hb6 HA.out.lt); have HZ6 := Lib.hid (HZ.out.below hb6 HZ.out.lt); have HO6 := Lib.hid (HO.out.below hb6 (Nat.le_refl _)); clear hb6)
            | (refine wpList_store_arr rfl 23 (.tmp 8) (.tmp 53) rfl w4.heap.size rfl (derV z lLeft) rfl _ _ HA6.out (by rw [HZl.out, derV_len]) (by rw [size32, derV_len]) b8_one' ?_; intro w7 hx7 hg7; have HX7 := Lib.hid hx7; have HG7 := Lib.hid hg7; clear hx7 hg7))
          go_roundw
          case rel => exact ⟨0, derV z lLeft, by first | rfl | simp, by omega, derV_len _ _, HX7.out, by rw [← HDn.out]; unfold stepS; rw [if_pos rfl, ← HPp.out, ← HCl.out, if_pos Hc.out], HZ6.out.grown HG7.out (fun e => by injection e with e; omega), HO6.out.kept HG7.out (.inr (fun e => by injection e with e; have e2 : g = w4.heap.size := e; omega)), (HB.out.trans (HB6.out.mono HB.out.size)).grown HG7.out (by have := HB6.out.size; have := HB.out.size; omega) (fun k e => by cases e; omega)⟩
          case measure => simp [intOf] <;> omega
        · have hce : ((x : Int) == cl) = false := by simpa using hc
          have Hc := Lib.hid hc
          clear hc
          have HDv := Lib.hid (refDerive_any wr z HZl.out ⟨#[114, 105, 103, 104, 116]⟩ lRight strRight (by decide))
          rw [arrV_mk, arrV_mk] at HDv
          go_wp2_with (first
            | (go_at_call 30; refine HCh.out.mono ?_; rintro e w' ⟨rfl, rfl⟩)
            | (refine wpList_load_arr rfl 23 (.tmp 8) rfl w4.heap.size rfl _ z HA.out _ Tryd.underlying23 rfl (by rw [size32, HZl.out]) ?_)
            | (go_at_call 14; refine (HDv.out).mono ?_; rintro e w6 ⟨rfl, hb6⟩; have HB6 := Lib.hid hb6; have HA6 := Lib.hid (HA.out.below hb6 HA.out.lt); have HZ6 := Lib.hid (HZ.out.below hb6 HZ.out.lt); have HO6 := Lib.hid (HO.out.below hb6 (Nat.le_refl _)); clear hb6)
            | (refine wpList_store_arr rfl 23 (.tmp 8) (.tmp 55) rfl w4.heap.size rfl (derV z lRight) rfl _ _ HA6.out (by rw [HZl.out, derV_len]) (by rw [size32, derV_len]) b8_one' ?_; intro w7 hx7 hg7; have HX7 := Lib.hid hx7; have HG7 := Lib.hid hg7; clear hx7 hg7))
          go_roundw
          case rel => exact ⟨0, derV z lRight, by first | rfl | simp, by omega, derV_len _ _, HX7.out, by rw [← HDn.out]; unfold stepS; rw [if_pos rfl, ← HPp.out, ← HCl.out, if_neg Hc.out], HZ6.out.grown HG7.out (fun e => by injection e with e; omega), HO6.out.kept HG7.out (.inr (fun e => by injection e with e; have e2 : g = w4.heap.size := e; omega)), (HB.out.trans (HB6.out.mono HB.out.size)).grown HG7.out (by have := HB6.out.size; have := HB.out.size; omega) (fun k e => by cases e; omega)⟩
          case measure => simp [intOf] <;> omega
      · obtain ⟨q, hq⟩ : ∃ q, r = q + 1 := ⟨r - 1, by omega⟩
        have hLq : q < L.length := by omega
        have c2 := (HO.out.at_ (k := q) hLq).1
        have hqe : L[q] = L.getD q 0 := by rw [List.getD, List.getElem?_eq_getElem hLq]; rfl
        rw [hqe] at c2
        unfold i64v at c2
        obtain ⟨pq, hpq⟩ : ∃ pq, pq = L.getD q 0 := ⟨_, rfl⟩
        rw [← hpq] at c2
        have HPq := Lib.hid hpq
        have HQ := Lib.hid hq
        have hrq : (r : Int) - 1 = (q : Int) := by omega
        have hr1 : (0 : Int) < (r : Int) := by omega
        have hqm : (q : Int) < (m : Int) := by omega
        clear hqe hpq hq
        by_cases hc : pq = cl
        · have hce : (pq == cl) = true := by simpa using hc
          have Hc := Lib.hid hc
          clear hc
          have HDv := Lib.hid (refDerive_any wr z HZl.out ⟨#[108, 101, 102, 116]⟩ lLeft strLeft (by decide))
          rw [arrV_mk, arrV_mk] at HDv
          go_wp2_with (first
            | (go_at_call 30; refine HCh.out.mono ?_; rintro e w' ⟨rfl, rfl⟩)
            | (refine wpList_load_arr rfl 23 (.tmp 8) rfl w4.heap.size rfl _ z HA.out _ Tryd.underlying23 rfl (by rw [size32, HZl.out]) ?_)
            | (go_at_call 14; refine (HDv.out).mono ?_; rintro e w6 ⟨rfl, hb6⟩; have HB6 := Lib.hid hb6; have HA6 := Lib.hid (HA.out.below hb6 HA.out.lt); have HZ6 := Lib.hid (HZ.out.below hb6 HZ.out.lt); have HO6 := Lib.hid (HO.out.below hb6 (Nat.le_refl _)); clear hb6)
            | (refine wpList_store_arr rfl 23 (.tmp 8) (.tmp 53) rfl w4.heap.size rfl (derV z lLeft) rfl _ _ HA6.out (by rw [HZl.out, derV_len]) (by rw [size32, derV_len]) b8_one' ?_; intro w7 hx7 hg7; have HX7 := Lib.hid hx7; have HG7 := Lib.hid hg7; clear hx7 hg7))
          go_roundw
          case rel => exact ⟨r, derV z lLeft, by rw [hrq], by omega, derV_len _ _, HX7.out, by rw [← HDn.out]; unfold stepS; rw [if_neg hr0, HQ.out, Nat.add_sub_cancel, ← HPq.out, ← HQ.out, ← HPp.out, ← HCl.out, if_pos Hc.out], HZ6.out.grown HG7.out (fun e => by injection e with e; omega), HO6.out.kept HG7.out (.inr (fun e => by injection e with e; have e2 : g = w4.heap.size := e; omega)), (HB.out.trans (HB6.out.mono HB.out.size)).grown HG7.out (by have := HB6.out.size; have := HB.out.size; omega) (fun k e => by cases e; omega)⟩
          case measure => simp [intOf] <;> omega
        · have hce : (pq == cl) = false := by simpa using hc
          have Hc := Lib.hid hc
          clear hc
          have HDv := Lib.hid (refDerive_any wr z HZl.out ⟨#[114, 105, 103, 104, 116]⟩ lRight strRight (by decide))
          rw [arrV_mk, arrV_mk] at HDv
          go_wp2_with (first
            | (go_at_call 30; refine HCh.out.mono ?_; rintro e w' ⟨rfl, rfl⟩)
            | (refine wpList_load_arr rfl 23 (.tmp 8) rfl w4.heap.size rfl _ z HA.out _ Tryd.underlying23 rfl (by rw [size32, HZl.out]) ?_)
            | (go_at_call 14; refine (HDv.out).mono ?_; rintro e w6 ⟨rfl, hb6⟩; have HB6 := Lib.hid hb6; have HA6 := Lib.hid (HA.out.below hb6 HA.out.lt); have HZ6 := Lib.hid (HZ.out.below hb6 HZ.out.lt); have HO6 := Lib.hid (HO.out.below hb6 (Nat.le_refl _)); clear hb6)
            | (refine wpList_store_arr rfl 23 (.tmp 8) (.tmp 55) rfl w4.heap.size rfl (derV z lRight) rfl _ _ HA6.out (by rw [HZl.out, derV_len]) (by rw [size32, derV_len]) b8_one' ?_; intro w7 hx7 hg7; have HX7 := Lib.hid hx7; have HG7 := Lib.hid hg7; clear hx7 hg7))
          go_roundw
          case rel => exact ⟨r, derV z lRight, by rw [hrq], by omega, derV_len _ _, HX7.out, by rw [← HDn.out]; unfold stepS; rw [if_neg hr0, HQ.out, Nat.add_sub_cancel, ← HPq.out, ← HQ.out, ← HPp.out, ← HCl.out, if_neg Hc.out], HZ6.out.grown HG7.out (fun e => by injection e with e; omega), HO6.out.kept HG7.out (.inr (fun e => by injection e with e; have e2 : g = w4.heap.size := e; omega)), (HB.out.trans (HB6.out.mono HB.out.size)).grown HG7.out (by have := HB6.out.size; have := HB.out.size; omega) (fun k e => by cases e; omega)⟩
          case measure => simp [intOf] <;> omega
end Go.Proofs.YtmncihhofppkdaaDoor
