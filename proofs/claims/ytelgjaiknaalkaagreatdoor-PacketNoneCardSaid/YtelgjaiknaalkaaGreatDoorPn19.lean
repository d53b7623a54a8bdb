/- CONTRACT: Chains.Jump of a line. -/
import Derived.Test.YtelgjaiknaalkaaGreatDoorPn16
import Derived.Test.YtelgjaiknaalkaaGreatDoorPn18
import Derived.Test.YtelgjaiknaalkaaGreatDoorPn17
import Derived.Test.YtelgjaiknaalkaaGreatDoorPn10
import Derived.Test.YtelgjaiknaalkaaGreatDoorPn07
import Derived.Lib.AppendStr
import Derived.Test.YtelgjaiknaalkaaGreatDoorPn11
import Derived.Test.YtelgjaiknaalkaaGreatDoorPn15
import Derived.Deep.CutRange
import Derived.Test.YtelgjaiknaalkaaGreatDoorPn02
import Derived.StillTailTactics
import Derived.Deep.QuietTactic
import Derived.BigQuiet
import Derived.Deep.RegionLaw
import Derived.Deep.RegionWith
import Derived.Test.YtelgjaiknaalkaaGreatDoorPn03
namespace Go.Proofs.YtelgjaiknaalkaaGreatDoor
open Go.RowKit Go.Maps
set_option linter.unusedVariables false
set_option linter.unusedSimpArgs false
/-- nothing but two blocks has turned -/
structure Two (w w' : World) (a b : Nat) : Prop where
  os : w'.os = w.os
  tape : w'.tape = w.tape
  output : w'.output = w.output
  size : w.heap.size ≤ w'.heap.size
  block : ∀ k, k < w.heap.size → k ≠ a → k ≠ b → w'.heap[k]? = w.heap[k]?
theorem Two.refl (w : World) (a b : Nat) : Two w w a b := ⟨rfl, rfl, rfl, Nat.le_refl _, fun _ _ _ _ => rfl⟩
theorem Two.left {w w' w'' : World} {a b : Nat} (h : Two w w' a b) (hg : w'.grownBy w'' (some a)) : Two w w'' a b :=
  ⟨hg.os.trans h.os, hg.tape.trans h.tape, hg.output.trans h.output, Nat.le_trans h.size hg.size, fun k hk h1 h2 => (hg.block k (Nat.lt_of_lt_of_le hk h.size) (fun e => by injection e with e; exact h1 e)).trans (h.block k hk h1 h2)⟩
theorem Two.right {w w' w'' : World} {a b : Nat} (h : Two w w' a b) (hg : w'.grownBy w'' (some b)) : Two w w'' a b :=
  ⟨hg.os.trans h.os, hg.tape.trans h.tape, hg.output.trans h.output, Nat.le_trans h.size hg.size, fun k hk h1 h2 => (hg.block k (Nat.lt_of_lt_of_le hk h.size) (fun e => by injection e with e; exact h2 e)).trans (h.block k hk h1 h2)⟩
set_option maxRecDepth 100000
end Go.Proofs.YtelgjaiknaalkaaGreatDoor
namespace Go.Proofs.YtelgjaiknaalkaaGreatDoor
open Go.RowKit
set_option linter.unusedVariables false
set_option linter.unusedSimpArgs false
set_option maxRecDepth 100000
theorem ChAt.other {w w' : World} {gC gl g : Nat} {xs : List LP} {cs : List Value} (c : ChAt w gC gl xs) (hz : Blk w g 94 cs) (hg : w.grownBy w' (some g)) : ChAt w' gC gl xs :=
  ⟨c.top.kept hg (fun e => by
    injection e with e
    have h2 : w.heap[g]? = some (.cells cs.toArray 94 (0, 0)) := hz
    have h3 : w.heap[gC]? = some (.cells #[.slice (some ⟨gl, 0, none⟩) xs.length xs.length] 117 (0, 0)) := c.top
    rw [← e, h3] at h2; injection h2 with h2; injection h2 with _ hT _; exact absurd hT (by decide)),
   c.lines.grown hg (fun e => by
    injection e with e
    have h2 : w.heap[g]? = some (.cells cs.toArray 94 (0, 0)) := hz
    have h3 : w.heap[gl]? = some (.cells (xs.flatMap LP.cells).toArray 130 (0, 0)) := c.lines
    rw [← e, h3] at h2; injection h2 with h2; injection h2 with _ hT _; exact absurd hT (by decide)),
   c.ok, fun x hx => (c.held x hx).cells hz (by decide) hg, c.gms, c.blks⟩
set_option maxHeartbeats 4000000 in
theorem next_okZ (w : World) (gC gl : Nat) (xs : List LP) (hc : ChAt w gC gl xs) (i : Nat) (hi : i < xs.length) (hm : xs.length ≤ 1000) (hE : takeE xs[i].l xs[i].l.place = 0) :
    Calls Tryz.prog 34 #[.pointer (some ⟨gC, 0, none⟩), .int .i64 (i : Int)] w fun e w' => ∃ b y, e = .returned (.tuple #[.agg (onceC xs[i].l.place (takeO xs[i].l xs[i].l.place).key (nonceS b)).toArray, .nilIface]) ∧
      Arr b8 w' b 5 ((takeO xs[i].l xs[i].l.place).key ++ (takeO xs[i].l xs[i].l.place).nonce) ∧ LP.l y = takeL xs[i].l xs[i].l.place ∧ ChAt w' gC gl (xs.set i y) ∧ b ∉ (xs.set i y).flatMap (fun x => x.hp.map Prod.snd) ∧ w.grownBy w' (some gl) ∧ w.heap.size ≤ LP.gm y ∧ ∀ z ∈ b :: y.hp.map Prod.snd, z ∈ xs[i].hp.map Prod.snd ∨ w.heap.size ≤ z := by
  obtain ⟨w1, hw1⟩ : ∃ w1, w1 = w.alloc (.cells zeroOnce.toArray 94) := ⟨_, rfl⟩
  have HZ1 := Lib.hid (show Blk w1 w.heap.size 94 zeroOnce by rw [hw1]; exact Blk.new _ _ _)
  have HK1 := Lib.hid (show Below w.heap.size w w1 by rw [hw1]; exact (Below.refl _ w).alloc (Nat.le_refl _) _)
  have hz1 : w1.heap.size = w.heap.size + 1 := by rw [hw1]; simp
  have HW1 := Lib.hid hw1
  clear hw1
  have hgl := hc.lines.lt
  have HC1 := Lib.hid (hc.below HK1.out)
  have HL := Lib.hid (line_any w1 gC gl xs HC1.out i hi hm)
  have hx := hc.ok _ (List.getElem_mem hi)
  have c35 := HC1.out.range i hi 35 _ (lineC_35 hx.lok.len)
  have HT := Lib.hid (ctake_okZ w1 gC gl xs HC1.out i hi hm _ hE)
  have hKl : (takeO xs[i].l xs[i].l.place).key.length = 32 := by
    rw [takeO_run (l := xs[i].l) (n := xs[i].l.place) (k := 0) (by omega) hE]
    exact ofL_key _ _
  obtain ⟨O, hO⟩ : ∃ O, O = takeO xs[i].l xs[i].l.place := ⟨_, rfl⟩
  obtain ⟨L, hL⟩ : ∃ L, L = takeL xs[i].l xs[i].l.place := ⟨_, rfl⟩
  rw [← hO, ← hL] at HT
  rw [← hO] at hKl
  rw [← hO, ← hL]
  generalize xs[i].l.place = p at c35 HT ⊢
  have HKl := Lib.hid hKl
  clear hE hx hO hL hc hKl
  go_enter Tryz.func34, Tryz.ntmps34
  go_upto_region 1 with fail
  have hw1 := HW1.out
  simp only [show zeroOnce.toArray = #[Value.int .i64 0, Value.int .u8 0, Value.int .u8 0, Value.int .u8 0, Value.int .u8 0, Value.int .u8 0, Value.int .u8 0, Value.int .u8 0, Value.int .u8 0, Value.int .u8 0, Value.int .u8 0, Value.int .u8 0, Value.int .u8 0, Value.int .u8 0, Value.int .u8 0, Value.int .u8 0, Value.int .u8 0, Value.int .u8 0, Value.int .u8 0, Value.int .u8 0, Value.int .u8 0, Value.int .u8 0, Value.int .u8 0, Value.int .u8 0, Value.int .u8 0, Value.int .u8 0, Value.int .u8 0, Value.int .u8 0, Value.int .u8 0, Value.int .u8 0, Value.int .u8 0, Value.int .u8 0, Value.int .u8 0, Value.slice none 0 0] from rfl] at hw1
  rw [← hw1]
  clear hw1
  go_wp2_with fail
  refine HL.out.mono ?_
  rintro e w2 ⟨rfl, rfl⟩
  go_wp2_with fail
  refine HT.out.mono ?_
  rintro e w3 ⟨b, y, rfl, hA3, hyl, hC3, hnd, hg3, hgm3, hzz3⟩
  have HZ3 := Lib.hid (HZ1.out.grown hg3 (fun e => by injection e with e; omega))
  have HZz3 := Lib.hid hzz3
  have HA3 := Lib.hid hA3
  have HC3 := Lib.hid hC3
  have HYl := Lib.hid hyl
  have HNd := Lib.hid hnd
  have HG3 := Lib.hid (show w.grownBy w3 (some gl) from grownBy_trans ⟨HK1.out.os, HK1.out.tape, HK1.out.output, HK1.out.size, fun k hk _ => HK1.out.block k hk⟩ hg3 (fun _ e => .inl e))
  clear hA3 hC3 hyl hnd hg3 hzz3
  go_wp2_with (refine wpList_store_piece rfl 94 (.tmp 4) (.tmp 21) rfl w.heap.size 0 rfl (onceC p O.key (nonceS b)) rfl 94 _ [] zeroOnce [] HZ3.out (by simp) rfl (by rw [onceC_len _ _ _ HKl.out]; rfl) (by rw [sizeOnce, onceC_len _ _ _ HKl.out]) (onceC_one _ _ _ _ _) ?_; intro w9 hx9 hg9)
  have HX9 := Lib.hid (show Blk w9 w.heap.size 94 (onceC p O.key (nonceS b)) from hx9.cast (by simp))
  refine bodyPost_ret (v := .tuple #[.agg (onceC p O.key (nonceS b)).toArray, .nilIface]) (results_blk_tmp (g := w.heap.size) rfl _ _ _ _ _ _ rfl rfl HX9.out Tryz.underlying94 rfl (by rw [sizeOnce, onceC_len _ _ _ HKl.out])) rfl ?_
  have hg := HG3.out
  exact ⟨b, y, rfl, arr_grown_line HA3.out HZ3.out (by decide) hg9, HYl.out, HC3.out.other HZ3.out hg9, HNd.out, ⟨hg9.os.trans hg.os, hg9.tape.trans hg.tape, hg9.output.trans hg.output, Nat.le_trans hg.size hg9.size, fun k hk hne => (hg9.block k (Nat.lt_of_lt_of_le hk hg.size) (fun e => by injection e with e; omega)).trans (hg.block k hk hne)⟩, by omega, fun z hz => by
    rcases HZz3.out z hz with h | h
    · exact .inl h
    · exact .inr (by omega)⟩
end Go.Proofs.YtelgjaiknaalkaaGreatDoor
namespace Go.Proofs.YtelgjaiknaalkaaGreatDoor
open Go.RowKit
set_option linter.unusedVariables false
set_option linter.unusedSimpArgs false
set_option maxRecDepth 100000 in
set_option maxHeartbeats 2000000 in
theorem newbad_any (w : World) (s : List (BitVec 8)) (n : Int) (n0 : -9223372036854775808 ≤ n) (n1 : n < 9223372036854775808) (hn : soundB n = false) :
    Calls Tryz.prog 29 #[arrV b8 s, .int .i64 n] w fun e w' => e = .returned (.pointer (some ⟨w.heap.size + 1, 0, none⟩)) ∧ Boxed w' (w.heap.size + 1) 117 (.slice none 0 0) ∧ Below w.heap.size w w' := by
  obtain ⟨w1, hw1⟩ : ∃ w1, w1 = (w.alloc (.cells (s.map b8).toArray 23)).alloc (.cells #[.slice none 0 0] 117) := ⟨_, rfl⟩
  have HC1 := Lib.hid (show Boxed w1 (w.heap.size + 1) 117 (.slice none 0 0) by rw [hw1]; have h := Boxed.new (w.alloc (.cells (s.map b8).toArray 23)) 117 (.slice none 0 0); rw [World.size_alloc] at h; exact h)
  have HK1 := Lib.hid (show Below w.heap.size w w1 by rw [hw1]; exact ((Below.refl _ w).alloc (Nat.le_refl _) _).alloc (by simp) _)
  have HW1 := Lib.hid hw1
  have HR := Lib.hid (root_any n n0 (by omega) w1)
  have hrt : rootV n = -1 := by unfold rootV; rw [if_neg (by rw [hn]; decide)]
  rw [arrV_mk]
  clear hw1 hn
  go_enter Tryz.func29, Tryz.ntmps29
  go_upto_region 2 with fail
  rw [← HW1.out]
  go_wp2_with fail
  refine HR.out.mono ?_
  rintro e w2 ⟨rfl, rfl⟩
  rw [hrt]
  go_wp2_with fail
  go_ret
  exact ⟨rfl, HC1.out, HK1.out⟩
/-- chains with these lines; none: they hold no lines -/
def ChX (w : World) (gC gl : Nat) (xs : List LP) : Prop := (xs = [] ∧ Boxed w gC 117 (.slice none 0 0)) ∨ ChAt w gC gl xs
theorem ChX.below {w w' : World} {gC gl : Nat} {xs : List LP} (h : ChX w gC gl xs) (hb : Below w.heap.size w w') : ChX w' gC gl xs := by
  rcases h with ⟨h1, h2⟩ | h
  · exact .inl ⟨h1, (hb.block _ h2.lt).trans h2⟩
  · exact .inr (h.below hb)
theorem ChX.at_ {w : World} {gC gl : Nat} {xs : List LP} (h : ChX w gC gl xs) {i : Nat} (hi : i < xs.length) : ChAt w gC gl xs := by
  rcases h with ⟨h1, h2⟩ | h
  · subst h1; exact absurd hi (by simp)
  · exact h
theorem ChX.none_ {w : World} {gC gl : Nat} {xs : List LP} (h : ChX w gC gl xs) (j : Int) (hj : j < 0 ∨ (xs.length : Int) ≤ j) :
    Calls Tryz.prog 58 #[.pointer (some ⟨gC, 0, none⟩), .int .i64 j] w fun e w' => e = .returned (.pointer none) ∧ w = w' := by
  rcases h with ⟨h1, h2⟩ | h
  · exact line_empty w gC h2 j
  · exact line_out w gC gl xs h j hj
end Go.Proofs.YtelgjaiknaalkaaGreatDoor
namespace Go.Proofs.YtelgjaiknaalkaaGreatDoor
open Go.RowKit
set_option linter.unusedVariables false
set_option linter.unusedSimpArgs false
attribute [local go_sem] Oper.semAt_some
/-- the nodes above: the chain of parents from p on -/
def upL : Nat → Int → Int → List Int
  | 0, _, _ => []
  | f + 1, p, n => if p < 0 then [] else p :: upL f (parV p n) n
def pathL (x n : Int) : List Int := upL 8 (parV x n) n
end Go.Proofs.YtelgjaiknaalkaaGreatDoor
namespace Go.Proofs.YtelgjaiknaalkaaGreatDoor
open Go.RowKit
set_option linter.unusedVariables false
set_option linter.unusedSimpArgs false
/-- one step down: which way the path goes on -/
def stepS (path : List Int) (x : Int) (r : Nat) (s : List (BitVec 8)) : List (BitVec 8) := if (if r = 0 then x else path.getD (r - 1) 0) = childL (path.getD r 0) then derV s lLeft else derV s lRight
def downS (path : List Int) (x : Int) : Nat → List (BitVec 8) → List (BitVec 8)
  | 0, s => s
  | r + 1, s => downS path x r (stepS path x r s)
def leafS (n i : Nat) (s : List (BitVec 8)) : List (BitVec 8) := downS (pathL (2 * (i : Int)) n) (2 * (i : Int)) (pathL (2 * (i : Int)) n).length s
theorem stepS_len (path : List Int) (x : Int) (r : Nat) (s : List (BitVec 8)) : (stepS path x r s).length = 32 := by
  unfold stepS
  generalize (if r = 0 then x else path.getD (r - 1) 0) = u
  by_cases h : u = childL (path.getD r 0)
  · rw [if_pos h]; exact derV_len _ _
  · rw [if_neg h]; exact derV_len _ _
theorem downS_len (path : List Int) (x : Int) : ∀ (r : Nat) (s : List (BitVec 8)), s.length = 32 → (downS path x r s).length = 32
  | 0, s, h => by rw [downS]; exact h
  | r + 1, s, h => by rw [downS]; exact downS_len path x r _ (stepS_len _ _ _ _)
/-- the ways, from the root down -/
def waysL (path : List Int) (x : Int) : Nat → List Bool
  | 0 => []
  | r + 1 => decide ((if r = 0 then x else path.getD (r - 1) 0) = childL (path.getD r 0)) :: waysL path x r
def goS : List Bool → List (BitVec 8) → List (BitVec 8)
  | [], s => s
  | b :: l, s => goS l (if b then derV s lLeft else derV s lRight)
theorem downS_go (path : List Int) (x : Int) : ∀ (r : Nat) (s : List (BitVec 8)), downS path x r s = goS (waysL path x r) s
  | 0, s => rfl
  | r + 1, s => by
    rw [downS, downS_go path x r, waysL, goS]
    unfold stepS
    by_cases h : (if r = 0 then x else path.getD (r - 1) 0) = childL (path.getD r 0) <;> simp [h]
/-- the ways to leaf i of 2 ^ k: the bits from the top -/
def bitsL : Nat → Nat → List Bool
  | 0, _ => []
  | k + 1, i => decide (i < 2 ^ k) :: bitsL k (if i < 2 ^ k then i else i - 2 ^ k)
theorem ways_bits : ∀ k : Nat, k ≤ 5 → ∀ i : Nat, i < 2 ^ k → waysL (pathL (2 * (i : Int)) ((2 ^ k : Nat) : Int)) (2 * (i : Int)) (pathL (2 * (i : Int)) ((2 ^ k : Nat) : Int)).length = bitsL k i := by
  have h : ∀ k : Nat, k < 6 → ∀ i : Nat, i < 2 ^ k → waysL (pathL (2 * (i : Int)) ((2 ^ k : Nat) : Int)) (2 * (i : Int)) (pathL (2 * (i : Int)) ((2 ^ k : Nat) : Int)).length = bitsL k i := by decide +kernel
  exact fun k hk i hi => h k (by omega) i hi
theorem secs_go : ∀ (k i : Nat) (s : List (BitVec 8)), i < 2 ^ k → (secs k s)[i]? = some (goS (bitsL k i) s)
  | 0, i, s, h => by
    have : i = 0 := by simpa using h
    subst this; rfl
  | k + 1, i, s, h => by
    have e : secs (k + 1) s = secs k (derV s lLeft) ++ secs k (derV s lRight) := rfl
    rw [e, bitsL, goS]
    rw [Nat.pow_succ] at h
    by_cases hi : i < 2 ^ k
    · rw [List.getElem?_append_left (by rw [secs_len]; exact hi), secs_go k i _ hi]; simp [hi]
    · rw [List.getElem?_append_right (by rw [secs_len]; omega), secs_len, secs_go k (i - 2 ^ k) _ (by omega)]; simp [hi]
theorem secs_leaf (k : Nat) (hk : k ≤ 5) (i : Nat) (hi : i < 2 ^ k) (s : List (BitVec 8)) : (secs k s)[i]? = some (leafS (2 ^ k) i s) := by
  rw [secs_go k i s hi]
  unfold leafS
  rw [downS_go, ways_bits k hk i hi]
end Go.Proofs.YtelgjaiknaalkaaGreatDoor
namespace Go.Proofs.YtelgjaiknaalkaaGreatDoor
open Go.RowKit
theorem mkL_get (k i : Nat) (hk : k ≤ 5) (hi : i < 2 ^ k) (s : List (BitVec 8)) (gms : List Nat) (hg : gms.length = 2 ^ k) (h : i < (mkL (secs k s) gms).length) : (mkL (secs k s) gms)[i].l = startL (leafS (2 ^ k) i s) := by
  have h1 := secs_leaf k hk i hi s
  have h2 : i < (secs k s).length := by rw [secs_len]; exact hi
  have h3 : (secs k s)[i] = leafS (2 ^ k) i s := by rw [List.getElem?_eq_getElem h2] at h1; exact Option.some.inj h1
  have hg2 : i < gms.length := by rw [hg]; exact hi
  have e : (mkL (secs k s) gms)[i]? = some ⟨startL (secs k s)[i], [], gms[i], false, 0, 0#64, []⟩ := by
    unfold mkL
    rw [List.getElem?_zipWith, List.getElem?_eq_getElem h2, List.getElem?_eq_getElem hg2]
  rw [List.getElem?_eq_getElem h] at e
  rw [Option.some.inj e]
  show startL (secs k s)[i] = _
  rw [h3]
end Go.Proofs.YtelgjaiknaalkaaGreatDoor
namespace Go.Proofs.YtelgjaiknaalkaaGreatDoor
open Go.RowKit
set_option linter.unusedVariables false
set_option linter.unusedSimpArgs false
set_option maxRecDepth 100000
set_option maxHeartbeats 4000000 in
theorem next_bad (w : World) (gC gl : Nat) (xs : List LP) (hc : ChAt w gC gl xs) (i : Nat) (hi : i < xs.length) (hm : xs.length ≤ 1000) (hE : takeE xs[i].l xs[i].l.place ≠ 0) :
    Calls Tryz.prog 34 #[.pointer (some ⟨gC, 0, none⟩), .int .i64 (i : Int)] w fun e w' => e = .returned (.tuple #[.agg zeroOnce.toArray, errV (takeE xs[i].l xs[i].l.place)]) ∧ Below w.heap.size w w' := by
  obtain ⟨w1, hw1⟩ : ∃ w1, w1 = w.alloc (.cells zeroOnce.toArray 94) := ⟨_, rfl⟩
  have HZ1 := Lib.hid (show Blk w1 w.heap.size 94 zeroOnce by rw [hw1]; exact Blk.new _ _ _)
  have HK1 := Lib.hid (show Below w.heap.size w w1 by rw [hw1]; exact (Below.refl _ w).alloc (Nat.le_refl _) _)
  have hz1 : w1.heap.size = w.heap.size + 1 := by rw [hw1]; simp
  have HW1 := Lib.hid hw1
  clear hw1
  have HC1 := Lib.hid (hc.below HK1.out)
  have HL := Lib.hid (line_any w1 gC gl xs HC1.out i hi hm)
  have hx := hc.ok _ (List.getElem_mem hi)
  have c35 := HC1.out.range i hi 35 _ (lineC_35 hx.lok.len)
  have hT := ctake_bad w1 gC gl xs HC1.out i hi hm _ hE
  have hNe := errV_pos hE
  generalize takeE xs[i].l xs[i].l.place = E at hT hNe hE ⊢
  generalize xs[i].l.place = p at c35 hT ⊢
  rw [hNe] at hT ⊢
  have HT := Lib.hid hT
  clear hE hx hc hT hNe
  go_enter Tryz.func34, Tryz.ntmps34
  go_upto_region 1 with fail
  have hw1 := HW1.out
  simp only [show zeroOnce.toArray = #[Value.int .i64 0, Value.int .u8 0, Value.int .u8 0, Value.int .u8 0, Value.int .u8 0, Value.int .u8 0, Value.int .u8 0, Value.int .u8 0, Value.int .u8 0, Value.int .u8 0, Value.int .u8 0, Value.int .u8 0, Value.int .u8 0, Value.int .u8 0, Value.int .u8 0, Value.int .u8 0, Value.int .u8 0, Value.int .u8 0, Value.int .u8 0, Value.int .u8 0, Value.int .u8 0, Value.int .u8 0, Value.int .u8 0, Value.int .u8 0, Value.int .u8 0, Value.int .u8 0, Value.int .u8 0, Value.int .u8 0, Value.int .u8 0, Value.int .u8 0, Value.int .u8 0, Value.int .u8 0, Value.int .u8 0, Value.slice none 0 0] from rfl] at hw1
  rw [← hw1]
  clear hw1
  go_wp2_with fail
  refine HL.out.mono ?_
  rintro e w2 ⟨rfl, rfl⟩
  go_wp2_with fail
  refine HT.out.mono ?_
  rintro e w3 ⟨rfl, hb3⟩
  have HZ3 := Lib.hid (HZ1.out.below hb3 (by omega))
  have HB3 := Lib.hid (HK1.out.trans (hb3.mono (by omega)))
  clear hb3
  go_wp2_with (refine wpList_store_piece rfl 94 (.tmp 4) (.tmp 21) rfl w.heap.size 0 rfl zeroOnce rfl 94 _ [] zeroOnce [] HZ3.out (by simp) rfl rfl sizeOnce (onceC_one _ _ _ _ _) ?_; intro w9 hx9 hg9)
  have HX9 := Lib.hid (show Blk w9 w.heap.size 94 zeroOnce from hx9.cast (by simp))
  refine bodyPost_ret (v := .tuple #[.agg zeroOnce.toArray, .iface 69 (.int .i64 (E : Int))]) (results_blk_tmp (g := w.heap.size) rfl _ _ _ _ _ _ rfl rfl HX9.out Tryz.underlying94 rfl sizeOnce) rfl ?_
  exact ⟨rfl, HB3.out.grown hg9 HB3.out.size (fun k e => by cases e; exact Nat.le_refl _)⟩
/-- the chains, the reference's lines -/
structure PlayAt (w : World) (base top gC gl gL : Nat) (spare : List Value) (xs : List LP) (ls : List RL) : Prop where
  ch : ChX w gC gl xs
  len : ls.length = xs.length
  xlen : xs.length ≤ 32
  lines : Blk w gL 89 (ls.flatMap RL.cells ++ spare)
  eq : ∀ (i : Nat) (h1 : i < xs.length) (h2 : i < ls.length), ls[i].l = xs[i].l
  at_ : ∀ x ∈ ls, x.At w
  gms : ∀ x ∈ xs, base ≤ LP.gm x
  sep : ∀ x ∈ ls, ∀ o ∈ x.rs, ∀ y ∈ xs, o.r ∉ (LP.hp y).map Prod.snd
  farh : ∀ x ∈ ls, ∀ (b off : Nat), RL.hA x = some ⟨b, off, none⟩ → top ≤ b
  fara : ∀ x ∈ ls, ∀ (b off : Nat), RL.aA x = some ⟨b, off, none⟩ → top ≤ b
  hpb : ∀ x ∈ xs, ∀ z ∈ (LP.hp x).map Prod.snd, base ≤ z
theorem PlayAt.below {w w' : World} {base top gC gl gL : Nat} {spare : List Value} {xs : List LP} {ls : List RL} (h : PlayAt w base top gC gl gL spare xs ls) (hb : Below w.heap.size w w') : PlayAt w' base top gC gl gL spare xs ls :=
  ⟨h.ch.below hb, h.len, h.xlen, h.lines.below hb h.lines.lt, h.eq, fun x hx => (h.at_ x hx).below hb (Nat.le_refl _), h.gms, h.sep, h.farh, h.fara, h.hpb⟩
theorem RL.At.of {w w' : World} {x : RL} (h : x.At w) (hs : w.heap.size ≤ w'.heap.size) (hA : ∀ (b off : Nat), x.hA = some ⟨b, off, none⟩ → 0 < x.rs.length → w'.heap[b]? = w.heap[b]?) (aA : ∀ (b off : Nat), x.aA = some ⟨b, off, none⟩ → 0 < x.l.asked.length → w'.heap[b]? = w.heap[b]?)
    (hr : ∀ o ∈ x.rs, w'.heap[o.r]? = w.heap[o.r]?) : x.At w' := by
  refine ⟨h.ok, h.fst, fun hp => ?_, h.none_, fun o ho => (h.each o ho).of hs (hr o ho), fun hp => ?_⟩
  · have hp0 : 0 < x.rs.length := by rw [RO.flat_len h.each] at hp; omega
    obtain ⟨b, off, e, hbb, hc⟩ := h.rows hp
    exact ⟨b, off, e, Nat.lt_of_lt_of_le hbb hs, fun j u hu => by rw [← hc j u hu]; exact World.cell?_of_block (hA b off e hp0)⟩
  · obtain ⟨b, off, e, hbb, hc⟩ := h.asked hp
    exact ⟨b, off, e, Nat.lt_of_lt_of_le hbb hs, fun j u hu => by rw [← hc j u hu]; exact World.cell?_of_block (aA b off e hp)⟩
/-- a block is none of a line's -/
structure Free (b : Nat) (x : RL) : Prop where
  h : ∀ (b' off : Nat), x.hA = some ⟨b', off, none⟩ → 0 < x.rs.length → b' ≠ b
  a : ∀ (b' off : Nat), x.aA = some ⟨b', off, none⟩ → 0 < x.l.asked.length → b' ≠ b
  r : ∀ o ∈ x.rs, RO.r o ≠ b
theorem RL.At.hlt {w : World} {x : RL} (h : x.At w) (b off : Nat) (e : x.hA = some ⟨b, off, none⟩) (hp : 0 < x.rs.length) : b < w.heap.size ∧ ∃ o v, w.cell? ⟨b, o, none⟩ = some (.int .i64 v) := by
  obtain ⟨b', off', e', hb, hc⟩ := h.rows (by rw [RO.flat_len h.each]; omega)
  rw [e] at e'; injection e' with e'; injection e' with e1 e2 _
  subst e1
  refine ⟨hb, off' + 0, ?_⟩
  cases hx : x.rs with
  | nil => rw [hx] at hp; simp at hp
  | cons r rs =>
    refine ⟨r.o.no, hc 0 _ ?_⟩
    rw [hx]; rfl
theorem RL.At.alt {w : World} {x : RL} (h : x.At w) (b off : Nat) (e : x.aA = some ⟨b, off, none⟩) (hp : 0 < x.l.asked.length) : b < w.heap.size ∧ ∃ o v, w.cell? ⟨b, o, none⟩ = some (.int .i64 v) := by
  obtain ⟨b', off', e', hb, hc⟩ := h.asked hp
  rw [e] at e'; injection e' with e'; injection e' with e1 e2 _
  subst e1
  refine ⟨hb, off' + 0, x.l.asked[0], hc 0 _ ?_⟩
  exact List.getElem?_eq_getElem hp
theorem RL.At.free {w w' : World} {x : RL} {b : Nat} (h : x.At w) (hg : w.grownBy w' (some b)) (hf : Free b x) : x.At w' :=
  h.of hg.size (fun b' off e hp => hg.block _ (h.hlt b' off e hp).1 (fun e2 => by injection e2 with e2; exact hf.h b' off e hp e2)) (fun b' off e hp => hg.block _ (h.alt b' off e hp).1 (fun e2 => by injection e2 with e2; exact hf.a b' off e hp e2))
    (fun o ho => hg.block _ (h.each o ho).lt (fun e2 => by injection e2 with e2; exact hf.r o ho e2))
/-- how many lines there are -/
def linesN (a : Int) : Nat := if soundB a then a.toNat else 0
theorem sound_two {a : Int} (h : soundB a = true) : ∃ k, k ≤ 5 ∧ a = ((2 ^ k : Nat) : Int) := by
  unfold soundB at h
  simp only [Bool.or_eq_true, beq_iff_eq] at h
  rcases h with ((((h | h) | h) | h) | h) | h
  · exact ⟨0, by decide, h⟩
  · exact ⟨1, by decide, h⟩
  · exact ⟨2, by decide, h⟩
  · exact ⟨3, by decide, h⟩
  · exact ⟨4, by decide, h⟩
  · exact ⟨5, by decide, h⟩
theorem new_all (w : World) (hT : Tab w) (s : List (BitVec 8)) (hs : s.length = 32) (a : Int) (a0 : -9223372036854775808 ≤ a) (a1 : a < 9223372036854775808) :
    Calls Tryz.prog 29 #[arrV b8 s, .int .i64 a] w fun e w' => ∃ gC gl xs, e = .returned (.pointer (some ⟨gC, 0, none⟩)) ∧ ChX w' gC gl xs ∧ xs.length = linesN a ∧ (∀ (i : Nat) (h : i < xs.length), xs[i].l = startL (leafS (linesN a) i s)) ∧ (∀ x ∈ xs, LP.hp x = []) ∧
      (∀ x ∈ xs, w.heap.size ≤ LP.gm x) ∧ w.heap.size ≤ gC ∧ gC < w'.heap.size ∧ w.heap.size ≤ gl ∧ gl < w'.heap.size ∧ linesN a ≤ 32 ∧ Below w.heap.size w w' := by
  cases hsd : soundB a with
  | true =>
    obtain ⟨k, hk, rfl⟩ := sound_two hsd
    have hN : linesN ((2 ^ k : Nat) : Int) = 2 ^ k := by unfold linesN; rw [if_pos hsd, Int.toNat_natCast]
    refine (newc_any w hT s hs k hk).mono ?_
    rintro e w' ⟨gC, gl, gms, rfl, hg, hc, h1, h2, h3, hb⟩
    have hl : (mkL (secs k s) gms).length = 2 ^ k := by rw [mkL_len _ _ (by rw [secs_len, hg]), secs_len]
    rw [hN]
    refine ⟨gC, gl, mkL (secs k s) gms, rfl, .inr hc, hl, fun i h => mkL_get k i hk (by rw [hl] at h; exact h) s gms hg h, fun x hx => ?_, fun x hx => ?_, h1, hc.top.lt, h2, hc.lines.lt, Nat.pow_le_pow_right (n := 2) (by decide) hk, hb⟩
    · obtain ⟨s', _, g, _, rfl⟩ := mkL_mem _ _ x hx; rfl
    · obtain ⟨s', _, g, hg', rfl⟩ := mkL_mem _ _ x hx; exact h3 g hg'
  | false =>
    have hN : linesN a = 0 := by unfold linesN; rw [hsd]; rfl
    rw [hN]
    refine (newbad_any w s a a0 a1 hsd).mono ?_
    rintro e w' ⟨rfl, hc, hb⟩
    have hlt := hc.lt
    exact ⟨w.heap.size + 1, w.heap.size + 1, [], rfl, .inl ⟨rfl, hc⟩, rfl, (fun i h => by simp at h), (fun x hx => by cases hx), (fun x hx => by cases hx), by omega, hlt, by omega, hlt, by omega, hb⟩
/-- a row of structs as a block that is known whole -/
theorem row_blk {w : World} {B E K g n cap : Nat} {us : List Value} (h : w.ownsRow B E K (.slice (some ⟨g, 0, none⟩) n cap) n us) : ∃ spare, Blk w g E (us ++ spare) ∧ B ≤ g := by
  rcases h.2 with ⟨e, -⟩ | ⟨g', cap', cur, e, hbg, hg, hnc, hcm, hcs, ht⟩
  · cases e
  · injection e with e1 e2 e3
    injection e1 with e1
    injection e1 with e1
    subst e1
    refine ⟨cur.toList.drop (n * K), ?_, hbg⟩
    show w.heap[g]? = some (.cells (us ++ cur.toList.drop (n * K)).toArray E (0, 0))
    rw [hg, ← ht, List.take_append_drop]
/-- a block of bytes that is none of the chains' has turned -/
theorem ChAt.over {w w' : World} {gC gl b : Nat} {xs : List LP} {cs : Array Value} (c : ChAt w gC gl xs) (hb : w.heap[b]? = some (.cells cs 5 (0, 0))) (hn : ∀ y ∈ xs, b ∉ (LP.hp y).map Prod.snd) (hg : w.grownBy w' (some b)) : ChAt w' gC gl xs :=
  ⟨c.top.kept hg (fun e => by
    injection e with e
    have h3 : w.heap[gC]? = some (.cells #[.slice (some ⟨gl, 0, none⟩) xs.length xs.length] 117 (0, 0)) := c.top
    rw [e, hb] at h3; injection h3 with h3; injection h3 with _ hT _; exact absurd hT (by decide)),
   c.lines.grown hg (fun e => by
    injection e with e
    have h3 : w.heap[gl]? = some (.cells (xs.flatMap LP.cells).toArray 130 (0, 0)) := c.lines
    rw [e, hb] at h3; injection h3 with h3; injection h3 with _ hT _; exact absurd hT (by decide)),
   c.ok, fun x hx => ⟨(c.held x hx).map.kept hg (fun e => by
    injection e with e
    exact (c.held x hx).map.not_cells hb e), fun p hp => ((c.held x hx).mem p hp).grown hg (fun e => by
    injection e with e
    exact hn x hx (by rw [← e]; exact List.mem_map.2 ⟨p, hp, rfl⟩))⟩, c.gms, c.blks⟩
theorem PlayAt.after {w w' : World} {base top gC gl gL : Nat} {spare : List Value} {zs : List LP} {ms : List RL} {row : Option Nat} (h : PlayAt w base top gC gl gL spare zs ms) (hg : w.grownBy w' row)
    (hf : ∀ b, row = some b → (∃ cs, w.heap[b]? = some (.cells cs 5 (0, 0))) ∧ (∀ y ∈ zs, b ∉ (LP.hp y).map Prod.snd) ∧ (∀ x ∈ ms, Free b x)) (hpos : 0 < zs.length) : PlayAt w' base top gC gl gL spare zs ms := by
  cases row with
  | none => exact h.below ⟨hg.os, hg.tape, hg.output, hg.size, fun k hk => hg.block k hk (by simp)⟩
  | some b =>
    obtain ⟨⟨cs, hb⟩, h2, h3⟩ := hf b rfl
    refine ⟨.inr ((h.ch.at_ hpos).over hb h2 hg), h.len, h.xlen, h.lines.grown hg (fun e => ?_), h.eq, fun x hx => (h.at_ x hx).free hg (h3 x hx), h.gms, h.sep, h.farh, h.fara, h.hpb⟩
    injection e with e
    have h4 : w.heap[gL]? = some (.cells _ 89 (0, 0)) := h.lines
    rw [e, hb] at h4; injection h4 with h4; injection h4 with _ hT _; exact absurd hT (by decide)
end Go.Proofs.YtelgjaiknaalkaaGreatDoor
namespace Go.Proofs.YtelgjaiknaalkaaGreatDoor
open Go.RowKit
set_option linter.unusedVariables false
set_option linter.unusedSimpArgs false
/-- nothing but some blocks has turned -/
structure Frm (w w' : World) (S : List Nat) : Prop where
  os : w'.os = w.os
  tape : w'.tape = w.tape
  output : w'.output = w.output
  size : w.heap.size ≤ w'.heap.size
  block : ∀ k, k < w.heap.size → k ∉ S → w'.heap[k]? = w.heap[k]?
theorem Frm.refl (w : World) (S : List Nat) : Frm w w S := ⟨rfl, rfl, rfl, Nat.le_refl _, fun _ _ _ => rfl⟩
theorem Frm.below {w w' w'' : World} {S : List Nat} {B : Nat} (h : Frm w w' S) (hb : Below B w' w'') (hB : w'.heap.size ≤ B) : Frm w w'' S :=
  ⟨hb.os.trans h.os, hb.tape.trans h.tape, hb.output.trans h.output, Nat.le_trans h.size hb.size, fun k hk hn => (hb.block k (by have := h.size; omega)).trans (h.block k hk hn)⟩
theorem Frm.grown {w w' w'' : World} {S : List Nat} {g : Nat} (h : Frm w w' S) (hg : w'.grownBy w'' (some g)) (hm : g ∈ S) : Frm w w'' S :=
  ⟨hg.os.trans h.os, hg.tape.trans h.tape, hg.output.trans h.output, Nat.le_trans h.size hg.size, fun k hk hn => (hg.block k (by have := h.size; omega) (fun e => by injection e with e; subst e; exact hn hm)).trans (h.block k hk hn)⟩
theorem Frm.toBelow {w0 w w' : World} {S : List Nat} {B : Nat} (hb : Below B w0 w) (h : Frm w w' S) (hB : B ≤ w.heap.size) (hS : ∀ q ∈ S, B ≤ q) : Below B w0 w' :=
  ⟨h.os.trans hb.os, h.tape.trans hb.tape, h.output.trans hb.output, Nat.le_trans hb.size h.size, fun k hk => (h.block k (by omega) (fun hm => by have := hS k hm; omega)).trans (hb.block k hk)⟩
theorem Blk.frm {w w' : World} {S : List Nat} {g : Nat} {T : TypeId} {cs : List Value} (h : Blk w g T cs) (f : Frm w w' S) (hn : g ∉ S) : Blk w' g T cs := (f.block g h.lt hn).trans h
theorem RL.At.frm {w w' : World} {S : List Nat} {x : RL} (h : x.At w) (f : Frm w w' S) (hf : ∀ q ∈ S, Free q x) : x.At w' :=
  h.of f.size (fun b off e hp => f.block b (h.hlt b off e hp).1 (fun hm => (hf b hm).h b off e hp rfl)) (fun b off e hp => f.block b (h.alt b off e hp).1 (fun hm => (hf b hm).a b off e hp rfl)) (fun o ho => f.block _ (h.each o ho).lt (fun hm => (hf _ hm).r o ho rfl))
/-- a block of cells that is none of the chains' kinds -/
def Typed (w : World) (q : Nat) : Prop := ∃ cs T, w.heap[q]? = some (.cells cs T (0, 0)) ∧ T ≠ 117 ∧ T ≠ 130 ∧ T ≠ 5
theorem ChAt.frm {w w' : World} {S : List Nat} {gC gl : Nat} {xs : List LP} (c : ChAt w gC gl xs) (f : Frm w w' S) (hS : ∀ q ∈ S, Typed w q) : ChAt w' gC gl xs := by
  have hu : ∀ (q : Nat) (cs : Array Value), w.heap[q]? = some (.cells cs 5 (0, 0)) → q ∉ S := fun q cs hq hm => by
    obtain ⟨c2, T, h2, -, -, h3⟩ := hS q hm
    rw [hq] at h2; injection h2 with h2; injection h2 with _ hT _; exact h3 hT.symm
  refine ⟨(f.block gC c.top.lt (fun hm => ?_)).trans c.top, c.lines.frm f (fun hm => ?_), c.ok, fun x hx => ⟨(c.held x hx).map.at_ (f.block _ (c.held x hx).map.lt (fun hm => ?_)), fun p hp => ?_⟩, c.gms, c.blks⟩
  · obtain ⟨c2, T, h2, h3, -, -⟩ := hS gC hm
    have h4 : w.heap[gC]? = some (.cells #[.slice (some ⟨gl, 0, none⟩) xs.length xs.length] 117 (0, 0)) := c.top
    rw [h4] at h2; injection h2 with h2; injection h2 with _ hT _; exact h3 hT.symm
  · obtain ⟨c2, T, h2, -, h3, -⟩ := hS gl hm
    have h4 : w.heap[gl]? = some (.cells (xs.flatMap LP.cells).toArray 130 (0, 0)) := c.lines
    rw [h4] at h2; injection h2 with h2; injection h2 with _ hT _; exact h3 hT.symm
  · obtain ⟨c2, T, h2, -⟩ := hS _ hm
    exact (c.held x hx).map.not_cells h2 rfl
  · have h1 := (c.held x hx).mem p hp
    have h2 : w.heap[p.2]? = some (.cells ((p.1.key ++ p.1.nonce).map b8).toArray 5 (0, 0)) := h1
    exact (f.block p.2 h1.lt (hu _ _ h2)).trans h1
theorem RO.At.frm {w w' : World} {S : List Nat} {o : RO} (h : o.At w) (f : Frm w w' S) (hS : ∀ q ∈ S, Typed w q) : o.At w' :=
  h.of f.size (f.block _ h.lt (fun hm => by
    obtain ⟨c1, h1⟩ := h.ty
    obtain ⟨c2, T, h2, -, -, h3⟩ := hS _ hm
    rw [h1] at h2; injection h2 with h2; injection h2 with _ hT _; exact h3 hT.symm))
theorem Arr.frm {w w' : World} {S : List Nat} {b : Nat} {xs : List (BitVec 8)} (h : Arr b8 w b 5 xs) (f : Frm w w' S) (hS : ∀ q ∈ S, Typed w q) : Arr b8 w' b 5 xs :=
  (f.block b h.lt (fun hm => by
    have h1 : w.heap[b]? = some (.cells (xs.map b8).toArray 5 (0, 0)) := h
    obtain ⟨c2, T, h2, -, -, h3⟩ := hS _ hm
    rw [h1] at h2; injection h2 with h2; injection h2 with _ hT _; exact h3 hT.symm)).trans h
theorem Typed.of {w : World} {q : Nat} {T : TypeId} {cs : List Value} (h : Blk w q T cs) (h1 : T ≠ 117) (h2 : T ≠ 130) (h3 : T ≠ 5) : Typed w q := ⟨_, T, h, h1, h2, h3⟩
theorem rd_frm {w w' : World} {S : List Nat} {B : Nat} {A : Option Addr} {ns : List (BitVec 8)} (h : Rd b8 w B A ns) (hB : B ≤ w.heap.size) (f : Frm w w' S) (hA : ∀ (b off : Nat), A = some ⟨b, off, none⟩ → b ∉ S) : Rd b8 w' B A ns := fun hn => by
  obtain ⟨b, off, e, hlt, hc⟩ := h hn
  exact ⟨b, off, e, hlt, fun j u hu => by rw [← hc j u hu]; exact World.cell?_of_block (f.block b (by omega) (hA b off e))⟩
end Go.Proofs.YtelgjaiknaalkaaGreatDoor
