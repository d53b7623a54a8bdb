/- PLAIN LAWS of ChainOnce: a line whose keys come of one link; chains beside others. -/
import Derived.Test.YtmncihhofppkdaaDoorLookC
import Derived.Test.YtmncihhofppkdaaDoorLkBits
namespace Go.Proofs.YtmncihhofppkdaaDoor
open Go.RowKit Go.Maps
set_option linter.unusedVariables false
set_option linter.unusedSimpArgs false
theorem idx4 (a : Int) : ∃ i : Nat, i < 4 ∧ wrap64 ((IntKind.u64.wrap a).tmod 4) = (i : Int) := by
  have e : IntKind.u64.wrap a = a % 18446744073709551616 := rfl
  rw [e]
  have h0 : 0 ≤ a % 18446744073709551616 := Int.emod_nonneg _ (by decide)
  rw [Int.tmod_eq_emod_of_nonneg h0]
  generalize a % 18446744073709551616 = b at h0
  refine ⟨(b % 4).toNat, by omega, ?_⟩
  unfold wrap64
  omega
theorem idx70 (a : Int) : ∃ i : Nat, i < 70 ∧ wrap64 ((IntKind.u64.wrap a).tmod 70) = (i : Int) := by
  have e : IntKind.u64.wrap a = a % 18446744073709551616 := rfl
  rw [e]
  have h0 : 0 ≤ a % 18446744073709551616 := Int.emod_nonneg _ (by decide)
  rw [Int.tmod_eq_emod_of_nonneg h0]
  generalize a % 18446744073709551616 = b at h0
  refine ⟨(b % 70).toNat, by omega, ?_⟩
  unfold wrap64
  omega
/-- a line whose keys all come of one link -/
structure OfZ (z : List (BitVec 8)) (l : LineM) : Prop where
  low : l.low = 0
  link : l.link = linkAt z l.place.toNat
  held : ∀ o ∈ l.held, o = ofL (linkAt z o.no.toNat) o.no
theorem OfZ.start (z : List (BitVec 8)) : OfZ z (startL z) := ⟨rfl, rfl, fun o ho => by cases ho⟩
theorem OfZ.takeO {z : List (BitVec 8)} {l : LineM} (h : OfZ z l) (k : LOK l) {n : Int} (hE : takeE l n = 0) : takeO l n = ofL (linkAt z n.toNat) n := by
  have hl := k.lowp
  have h0 := k.low0
  by_cases hlo : n < l.place
  · obtain ⟨n0, n1, nh, nl, na, nf⟩ := takeE_zero hE
    have hk := k.hi
    obtain ⟨o, ho, he⟩ := k.all n nl hlo na (by omega)
    rw [takeO_low k hlo hE ho he, h.held o ho, he]
  · rw [takeO_run (k := (n - l.place).toNat) (by omega) hE, h.link, linkAt_add]
    congr 2; omega
theorem OfZ.takeL {z : List (BitVec 8)} {l : LineM} (h : OfZ z l) (k : LOK l) {n : Int} (hE : takeE l n = 0) : OfZ z (takeL l n) := by
  have hl := k.lowp
  have h0 := k.low0
  by_cases hlo : n < l.place
  · rw [takeL_low k hlo hE]
    exact ⟨h.low, h.link, fun o ho => h.held o (List.mem_filter.1 ho).1⟩
  · obtain ⟨q, hq⟩ : ∃ q : Nat, n = l.place + (q : Int) := ⟨(n - l.place).toNat, by omega⟩
    rw [takeL_run k hq hE]
    refine ⟨h.low, ?_, fun o ho => ?_⟩
    · dsimp only
      rw [h.link, linkAt_add]
      congr 1; omega
    · rcases List.mem_append.1 (List.mem_filter.1 ho).1 with h1 | h1
      · exact h.held o h1
      · obtain ⟨j, hj, rfl⟩ := (mem_runL _ _ _ _).1 h1
        rw [ofL_no, h.link, linkAt_add]
        congr 2; omega
theorem takeL_place {l : LineM} {n : Int} : (takeL l n).place = if l.place ≤ n then n + 1 else l.place := rfl
/-- a number below 70 that wasn't asked for is refused only if it is old -/
theorem OfZ.refused {z : List (BitVec 8)} {l : LineM} (h : OfZ z l) (k : LOK l) {n : Nat} (hn : n < 70) (hE : takeE l (n : Int) ≠ 0) (ha : (n : Int) ∉ l.asked) : (n : Int) < l.place - 1 - 64 := by
  have hk := k.hi
  have h0 := k.lowp
  have hl := h.low
  have hk0 := k.low0
  apply Decidable.byContradiction
  intro hc
  apply hE
  unfold takeE
  rw [if_neg (by omega), if_neg (by rw [hk]; omega), if_neg (by omega), if_neg ha, if_neg (by omega)]
/-- chains in other blocks stay -/
theorem ChAt.apart {w w' : World} {gC gl gC' gl' : Nat} {xs xs' : List LP} (c : ChAt w gC gl xs) (c' : ChAt w gC' gl' xs') (hg : w.grownBy w' (some gl')) (hne : gl ≠ gl') : ChAt w' gC gl xs :=
  ⟨c.top.kept hg (fun e => by
    injection e with e
    have h2 : w.heap[gl']? = some (.cells (xs'.flatMap LP.cells).toArray 81 (0, 0)) := c'.lines
    have h3 : w.heap[gC]? = some (.cells #[.slice (some ⟨gl, 0, none⟩) xs.length xs.length] 70 (0, 0)) := c.top
    rw [← e, h3] at h2; injection h2 with h2; injection h2 with _ hT _; exact absurd hT (by decide)),
   c.lines.grown hg (fun e => by injection e with e; exact hne e),
   c.ok, fun x hx => (c.held x hx).cells c'.lines (by decide) hg, c.gms, c.blks⟩
/-- a map's block has turned -/
theorem ChAt.mapTurn {w w' : World} {gC gl gm : Nat} {xs : List LP} {es : Array MapEntry} {ck : Nat} (c : ChAt w gC gl xs) (hm : w.heap[gm]? = some (.map es ck)) (hx : ∀ x ∈ xs, x.gm ≠ gm) (hg : w.grownBy w' (some gm)) : ChAt w' gC gl xs :=
  ⟨c.top.kept hg (fun e => by
    injection e with e
    have h3 : w.heap[gC]? = some (.cells #[.slice (some ⟨gl, 0, none⟩) xs.length xs.length] 70 (0, 0)) := c.top
    rw [← e, h3] at hm; cases hm),
   c.lines.grown hg (fun e => by
    injection e with e
    have h3 : w.heap[gl]? = some (.cells (xs.flatMap LP.cells).toArray 81 (0, 0)) := c.lines
    rw [← e, h3] at hm; cases hm),
   c.ok, fun x hxx => ⟨(c.held x hxx).map.kept hg (fun e => by injection e with e; exact hx x hxx e), fun p hp => ((c.held x hxx).mem p hp).grown hg (fun e => by
    injection e with e
    have h1 := (c.held x hxx).mem p hp
    unfold Arr at h1
    rw [← e, h1] at hm; cases hm)⟩, c.gms, c.blks⟩
theorem HeldAt.mapTurn {w w' : World} {gm gm' : Nat} {hp : List (OnceM × Nat)} {es : Array MapEntry} {ck : Nat} (x : HeldAt w gm hp) (hm : w.heap[gm']? = some (.map es ck)) (hx : gm ≠ gm') (hg : w.grownBy w' (some gm')) : HeldAt w' gm hp :=
  ⟨x.map.kept hg (fun e => by injection e with e; exact hx e), fun p hp => (x.mem p hp).grown hg (fun e => by
    injection e with e
    have h1 := x.mem p hp
    unfold Arr at h1
    rw [← e, h1] at hm; cases hm)⟩
set_option maxRecDepth 100000 in
/-- what a map of keys answers for one it holds -/
theorem HeldAt.look {w : World} {gm : Nat} {hp : List (OnceM × Nat)} (x : HeldAt w gm hp) (hr : RiseO (hp.map Prod.fst)) {p : OnceM × Nat} (hp' : p ∈ hp) (h0 : 0 ≤ p.1.no) (h1 : p.1.no < 1000) {zv : Value} (hz : (zeroValue 32).run Tryd.prog w = .ok zv w) (hzb : onceB zv = true) :
    (Instr.lookup 47 (.map (some gm)) (.int .i64 p.1.no) false).run Tryd.prog w = .ok (.agg (onceC p.1.no p.1.key (nonceS p.2)).toArray) w := by
  have hk : RiseK (mapL hp) := by
    unfold RiseK mapL
    unfold RiseO at hr
    rw [List.pairwise_map] at hr ⊢
    exact hr
  obtain ⟨v, ps, h2, h3⟩ := World.ownsMap.lookup (t := 47) (e := 32) x.map intKey Tryd.underlying47 hz (anyE_mk hzb) (keyI (a := p.1.no) (by omega) (by omega))
  rw [mapD_at (mapL hp) p.1.no (.agg (onceC p.1.no p.1.key (nonceS p.2)).toArray) hk (List.mem_map.2 ⟨p, hp', rfl⟩)] at h3
  obtain ⟨-, h4⟩ := anyE_inv h3
  have h5 := congrArg Prod.fst h4
  dsimp only at h5
  have h6 := DataW.held.inj h5
  rw [h6]; exact h2
end Go.Proofs.YtmncihhofppkdaaDoor
