/- PLAIN LAWS: what a window's marks and the map's entries have to do with a chain's line. -/
import Derived.Test.YtmncihhofppkdaaDoorLineD
import Derived.Test.YtmncihhofppkdaaDoorMapO
namespace Go.Proofs.YtmncihhofppkdaaDoor
open Go.RowKit
set_option linter.unusedVariables false
set_option linter.unusedSimpArgs false

/-- the window's marks are what was asked for, at and above the line's low end -/
structure Marks (M : List Int) (t : Bool) (h : Int) (s : BitVec 64) (l : LineM) : Prop where
  inv : Inv M t h s
  hi : hiL M = l.place - 1
  mem : ∀ n, l.low ≤ n → (n ∈ M ↔ n ∈ l.asked)
theorem Marks.start (link : List (BitVec 8)) : Marks [] false 0 0#64 (startL link) := ⟨Inv.start, rfl, fun n _ => Iff.rfl⟩
section
variable {M : List Int} {t : Bool} {h : Int} {s : BitVec 64} {l : LineM}
theorem Marks.bound (x : Marks M t h s l) : t = true → 0 ≤ h ∧ h < 4294967295 := x.inv.bound
/-- the window refuses a number -/
theorem Marks.refuse (x : Marks M t h s l) (k : LOK l) {n : Int} (hc : winCheck t h s n ≠ 0) : takeE l n = winCheck t h s n := by
  rw [x.inv.check n] at hc ⊢
  have hh := x.hi
  have hk := k.hi
  unfold refCheck at hc ⊢
  unfold takeE
  rw [hh] at hc ⊢
  rw [hk]
  by_cases h1 : n < 0 ∨ 4294967294 < n
  · rw [if_pos h1, if_pos h1]
  rw [if_neg h1] at hc ⊢
  rw [if_neg h1]
  by_cases h2 : n < l.place - 1 - 64
  · rw [if_pos h2, if_pos h2]
  rw [if_neg h2] at hc ⊢
  rw [if_neg h2]
  by_cases h3 : n ∈ M
  · rw [if_pos h3]
    by_cases h4 : n < l.low
    · rw [if_pos h4]
    · rw [if_neg h4, if_pos ((x.mem n (by omega)).1 h3)]
  · rw [if_neg h3] at hc; exact absurd rfl hc
theorem Marks.pass (x : Marks M t h s l) {n : Int} (hc : winCheck t h s n = 0) : 0 ≤ n ∧ n ≤ 4294967294 ∧ l.place - 65 ≤ n ∧ n ∉ M ∧ refCheck M n = 0 := by
  rw [x.inv.check n] at hc
  have hc' := hc
  unfold refCheck at hc
  rw [x.hi] at hc
  split at hc; cases hc
  split at hc; cases hc
  split at hc; cases hc
  exact ⟨by omega, by omega, by omega, by assumption, hc'⟩
/-- the window lets it by, and it is held: it is handed out -/
theorem Marks.found (x : Marks M t h s l) (k : LOK l) {n : Int} (hc : winCheck t h s n = 0) {o : OnceM} (ho : o ∈ l.held) (hn : o.no = n) : takeE l n = 0 := by
  obtain ⟨n0, n1, n2, -, -⟩ := x.pass hc
  obtain ⟨g1, g2, g3, -⟩ := k.held o ho
  have hk := k.hi
  subst hn
  unfold takeE
  rw [hk, if_neg (by omega), if_neg (by omega), if_neg (by omega), if_neg g3, if_neg (by omega)]
/-- it lets it by, it isn't held, it is below the place -/
theorem Marks.passed (x : Marks M t h s l) (k : LOK l) {n : Int} (hc : winCheck t h s n = 0) (hno : ∀ o ∈ l.held, o.no ≠ n) (hp : n < l.place) : takeE l n = 7 := by
  obtain ⟨n0, n1, n2, n3, -⟩ := x.pass hc
  have hk := k.hi
  unfold takeE
  rw [hk, if_neg (by omega), if_neg (by omega)]
  by_cases h4 : n < l.low
  · rw [if_pos h4]
  · rw [if_neg h4]
    by_cases h5 : n ∈ l.asked
    · rw [if_pos h5]
    · exfalso
      obtain ⟨o, ho, he⟩ := k.all n (by omega) hp h5 n2
      exact hno o ho he
theorem Marks.beyond (x : Marks M t h s l) (k : LOK l) {n : Int} (hc : winCheck t h s n = 0) (hp : l.place ≤ n) : takeE l n = if 256 < n - l.place then 12 else 0 := by
  obtain ⟨n0, n1, n2, n3, -⟩ := x.pass hc
  have hk := k.hi
  have hl := k.lowp
  unfold takeE
  rw [hk, if_neg (by omega), if_neg (by omega), if_neg (by omega), if_neg (fun h5 => n3 ((x.mem n (by omega)).2 h5))]
  by_cases hf : 256 < n - l.place
  · rw [if_pos hf, if_pos (by omega)]
  · rw [if_neg hf, if_neg (by omega)]
/-- the marks behind a number that was taken -/
theorem Marks.take (x : Marks M t h s l) (k : LOK l) {n : Int} (hc : winCheck t h s n = 0) (h0 : takeE l n = 0) :
    Marks (M ++ [n]) (winMark t h s n).1 (winMark t h s n).2.1 (winMark t h s n).2.2 (takeL l n) := by
  obtain ⟨n0, n1, n2, n3, hr⟩ := x.pass hc
  refine ⟨x.inv.mark n hr, ?_, fun m hm => ?_⟩
  · rw [hiL_snoc, x.hi]
    show _ = (if l.place ≤ n then n + 1 else l.place) - 1
    by_cases hp : l.place ≤ n
    · rw [if_pos (by omega), if_pos hp]; omega
    · rw [if_neg (by omega), if_neg hp]
  · have hm' : l.low ≤ m := hm
    show m ∈ M ++ [n] ↔ m ∈ l.asked ++ [n]
    rw [List.mem_append, List.mem_append, x.mem m hm']
end
/-- the entries of the map: what is held, and the blocks of the nonces -/
def mapL (hp : List (OnceM × Nat)) : List (Int × Value) := hp.map fun p => (p.1.no, .agg (onceC p.1.no p.1.key (nonceS p.2)).toArray)
theorem mapL_app (a b : List (OnceM × Nat)) : mapL (a ++ b) = mapL a ++ mapL b := by unfold mapL; rw [List.map_append]
theorem mapL_filter (hp : List (OnceM × Nat)) (f : Int → Bool) : (mapL hp).filter (fun p => f p.1) = mapL (hp.filter fun p => f p.1.no) := by
  unfold mapL
  rw [List.filter_map]
  congr 1
/-- block gm is the map of what is held; the nonces lie in their blocks -/
structure HeldAt (w : World) (gm : Nat) (hp : List (OnceM × Nat)) : Prop where
  map : MapO w gm (mapL hp)
  mem : ∀ p ∈ hp, Arr b8 w p.2 5 (p.1.key ++ p.1.nonce)
theorem HeldAt.below {w w' : World} {gm B : Nat} {hp : List (OnceM × Nat)} (x : HeldAt w gm hp) (hb : Below B w w') (hg : gm < B) (hB : ∀ p ∈ hp, p.2 < B) : HeldAt w' gm hp :=
  ⟨x.map.below hb hg, fun p hp' => (x.mem p hp').below hb (hB p hp')⟩
theorem HeldAt.alloc {w : World} {gm : Nat} {hp : List (OnceM × Nat)} (x : HeldAt w gm hp) (o : Obj) : HeldAt (w.alloc o) gm hp := ⟨x.map.alloc o, fun p hp' => (x.mem p hp').alloc o⟩
/-- another block of cells, of another type, has turned -/
theorem HeldAt.cells {w w' : World} {gm g : Nat} {hp : List (OnceM × Nat)} (x : HeldAt w gm hp) {cs : Array Value} {T : TypeId} (hg : w.heap[g]? = some (.cells cs T (0, 0))) (hT : T ≠ 5) (hb : w.grownBy w' (some g)) : HeldAt w' gm hp :=
  ⟨x.map.kept hb (fun e => by injection e with e; subst e; exact x.map.not_cells hg rfl), fun p hp' => (x.mem p hp').grown hb (fun e => by
    injection e with e; subst e
    have h1 := x.mem p hp'
    unfold Arr at h1
    rw [h1] at hg; cases hg; exact hT rfl)⟩
theorem find_held {hp : List (OnceM × Nat)} {n : Int} (h : ∃ p ∈ hp, p.1.no = n) : (mapL hp).any (fun p => decide (p.1 = n)) = true := by
  obtain ⟨p, hp', e⟩ := h
  exact List.any_eq_true.2 ⟨_, List.mem_map.2 ⟨p, hp', rfl⟩, by simp [e]⟩
theorem none_held {hp : List (OnceM × Nat)} {n : Int} (h : ∀ p ∈ hp, p.1.no ≠ n) : (mapL hp).any (fun p => decide (p.1 = n)) = false := by
  rw [List.any_eq_false]
  intro x hx
  obtain ⟨p, hp', rfl⟩ := List.mem_map.1 hx
  simp [h p hp']
theorem mapL_rise {hp : List (OnceM × Nat)} (h : RiseO (hp.map Prod.fst)) : RiseK (mapL hp) := by
  unfold RiseK mapL
  unfold RiseO at h
  rw [List.pairwise_map] at h ⊢
  exact h
end Go.Proofs.YtmncihhofppkdaaDoor
