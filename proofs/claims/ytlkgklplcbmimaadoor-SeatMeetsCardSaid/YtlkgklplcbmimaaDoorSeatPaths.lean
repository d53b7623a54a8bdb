/- the walk of SeatPaths. -/
import Derived.Test.YtlkgklplcbmimaaDoorSeatPath
import Derived.RangeFuncBox
namespace Go.Proofs.YtlkgklplcbmimaaDoor
open Go.RowKit
set_option linter.unusedVariables false
attribute [local go_sem] Oper.semAt_some
/-- what the loop's own boxes hold, and the list that is read -/
def PInv (sM sR sW sK : Nat) (m : Int) (wv : Value) (A : Option Addr) (L : List Int) (k : Nat) (W : World) : Prop :=
  Boxed W sM 3 (.int .i64 m) ∧ (∃ b, Boxed W sR 4 (.bool b)) ∧ Boxed W sW 23 wv ∧ Boxed W sK 3 (.int .i64 k) ∧ Rd i64v W sW A L
theorem boxed_own' {W W' : World} {row : Option Nat} {B : Nat} {t : TypeId} {v : Value} (h : Boxed W B t v) (hg : W.grownBy W' row) (hr : ∀ r, row = some r → ∃ o : Obj, W.heap[r]? = some o ∧ o.isCells = false) : Boxed W' B t v :=
  h.kept hg (fun e => by
    obtain ⟨o, ho, hn⟩ := hr B e.symm
    have : W.heap[B]? = some (.cells #[v] t (0, 0)) := h
    rw [this] at ho; cases ho; cases hn)
theorem rd_own' {α : Type} {f : α → Value} {W W' : World} {row : Option Nat} {B : Nat} {A : Option Addr} {L : List α} (h : Rd f W B A L) (hg : W.grownBy W' row) (hr : ∀ r, row = some r → ∃ o : Obj, W.heap[r]? = some o ∧ o.isCells = false) : Rd f W' B A L := fun hn => by
  obtain ⟨b, off, e, hb, hc⟩ := h hn
  exact ⟨b, off, e, hb, fun j u hu => cell_kept (hc j u hu) hg hr⟩
theorem PInv.own {sM sR sW sK : Nat} {m : Int} {wv : Value} {A : Option Addr} {L : List Int} {k : Nat} {W W' : World} {row : Option Nat} (h : PInv sM sR sW sK m wv A L k W) (hg : W.grownBy W' row) (hr : ∀ r, row = some r → ∃ o : Obj, W.heap[r]? = some o ∧ o.isCells = false) : PInv sM sR sW sK m wv A L k W' := by
  obtain ⟨h1, ⟨b, h2⟩, h3, h4, h5⟩ := h
  exact ⟨boxed_own' h1 hg hr, ⟨b, boxed_own' h2 hg hr⟩, boxed_own' h3 hg hr, boxed_own' h4 hg hr, rd_own' h5 hg hr⟩
theorem boxed_far {W : World} {B B' : Nat} {t : TypeId} {v : Value} (h : Boxed W B t v) (hne : B ≠ B') (u : Value) : Boxed (W.setCell ⟨B', 0, none⟩ u) B t v := (Below.heap_setCell W ⟨B', 0, none⟩ u B hne).trans h
theorem rd_far {α : Type} {f : α → Value} {W : World} {B B' : Nat} {A : Option Addr} {L : List α} (h : Rd f W B A L) (hne : B ≤ B') (u : Value) : Rd f (W.setCell ⟨B', 0, none⟩ u) B A L := h.keep fun p hp => World.cell?_setCell_other _ _ _ _ (fun e => by subst e; simp at hp; omega)
theorem PInv.k {sM sR sW sK : Nat} {m : Int} {wv : Value} {A : Option Addr} {L : List Int} {k k' : Nat} {W : World} (h : PInv sM sR sW sK m wv A L k W) (hM : sM < sK) (hR : sR < sK) (hW : sW < sK) : PInv sM sR sW sK m wv A L k' (W.setCell ⟨sK, 0, none⟩ (.int .i64 k')) := by
  obtain ⟨h1, ⟨b, h2⟩, h3, h4, h5⟩ := h
  exact ⟨boxed_far h1 (by omega) _, ⟨b, boxed_far h2 (by omega) _⟩, boxed_far h3 (by omega) _, h4.set _, rd_far h5 (by omega) _⟩
theorem PInv.r {sM sR sW sK : Nat} {m : Int} {wv : Value} {A : Option Addr} {L : List Int} {k : Nat} {W : World} (h : PInv sM sR sW sK m wv A L k W) (hM : sM < sR) (hR : sR < sW) (hW : sW < sK) (u : Bool) (hrd : Rd i64v (W.setCell ⟨sR, 0, none⟩ (.bool u)) sW A L) : PInv sM sR sW sK m wv A L k (W.setCell ⟨sR, 0, none⟩ (.bool u)) := by
  obtain ⟨h1, ⟨b, h2⟩, h3, h4, h5⟩ := h
  exact ⟨boxed_far h1 (by omega) _, ⟨u, h2.set _⟩, boxed_far h3 (by omega) _, boxed_far h4 (by omega) _, hrd⟩
theorem prefix_snoc {L pre : List Int} (h : pre <+: L) (hl : pre.length < L.length) (x : Int) : pre ++ [x] <+: L ↔ x = L[pre.length] := by
  obtain ⟨t, rfl⟩ := h
  cases t with
  | nil => simp at hl
  | cons y t =>
    rw [List.prefix_append_right_inj]
    simp

theorem boxed_below {w w' : World} {B n : Nat} {t : TypeId} {v : Value} (h : Boxed w B t v) (hb : Below n w w') (hn : B < n) : Boxed w' B t v := (hb.block B hn).trans h
theorem Tab.alloc2 {w : World} (h : Tab w) {a b : Obj} : Tab ((w.alloc a).alloc b) := h.below (((Below.refl _ _).alloc (Nat.le_refl _) _).alloc (by simp) _)

set_option maxRecDepth 100000 in
set_option maxHeartbeats 2000000 in
theorem seatPaths_walk (x n most : Int) (x1 : -9223372036854775808 ≤ x) (hx : x < 9223372036854775808) (h1 : -9223372036854775808 ≤ n) (h2 : n < 9223372036854775808) (m1 : -9223372036854775808 ≤ most) (m2 : most < 9223372036854775808) (w : World) (hT : Tab w) :
    Calls Tryd.prog 3 #[.int .i64 x, .int .i64 n, .int .i64 most] w fun e w' => e = .returned (.bool true) ∧ Below w.heap.size w w' := by
  obtain ⟨j, hj, hj8⟩ : ∃ j : Nat, IntKind.u64.wrap most % 8 = (j : Int) ∧ j < 8 := ⟨(IntKind.u64.wrap most % 8).toNat, by rw [IntKind.wrap_u64]; omega, by rw [IntKind.wrap_u64]; omega⟩
  have hj' : (IntKind.u64.wrap most).tmod 8 = (j : Int) := by
    rw [← hj]
    exact Int.tmod_eq_emod_of_nonneg (by rw [IntKind.wrap_u64]; omega)
  clear hj
  obtain ⟨L, hL⟩ : ∃ L, L = pathL x n := ⟨_, rfl⟩
  have hlen := (chain_of x n).2
  have cP := fun w => refPath_any x n w
  rw [← hL] at hlen
  simp only [← hL] at cP
  have CP := Lib.hid cP
  have HL := Lib.hid hL
  clear hL cP
  have HT := Lib.hid hT
  clear hT m1 m2
  refine (callsIn_wide (n := 9)).1 ?_
  refine callsIn_of_wp_marks Tryd.func3 rfl trivial ?_ rfl
  simp only [Tryd.ntmps3, List.size_toArray, List.length_cons, List.length_nil, Nat.reduceAdd, Nat.reduceSub, Array.replicate_succ, Array.replicate_zero, List.push_toArray, List.append_toArray, List.nil_append, List.cons_append]
  gi_wp2_with fail
  refine ⟨trivial, ?_⟩
  refine (callsIn_wide.2 (alive13_any _ (HT.out.alloc2))).mono ?_
  rintro e w1 ⟨rfl, hb1⟩
  have T1 := Lib.hid (HT.out.alloc2.below hb1)
  have M1 := Lib.hid (boxed_below ((Boxed.new w 3 (.int .i64 most)).alloc (.cells #[.bool false] 4)) hb1 (by (first | omega | (simp; done) | (simp; omega) | (simp at *; omega))))
  have R1 := Lib.hid (boxed_below (by have := Boxed.new (w.alloc (.cells #[.int .i64 most] 3)) 4 (.bool false); rw [World.size_alloc] at this; exact this) hb1 (by (first | omega | (simp; done) | (simp; omega) | (simp at *; omega))))
  have cr1 := R1.out.cell
  have fr1 := R1.out.frozen
  have hz1 := hb1.size
  simp only [World.size_alloc] at hz1
  gi_wp2_with fail
  refine ⟨trivial, ?_⟩
  refine (callsIn_wide.2 (CP.out _)).mono ?_
  rintro e w2 ⟨v2, rfl, ho2, hb2⟩
  obtain ⟨A2, c2, rfl, hr2, -, -, -⟩ := ho2.shape
  have H2 := Lib.hid hr2
  have HRd : Hid (∀ u : Value, Rd i64v (w2.setCell ⟨w.heap.size, 0, none⟩ u) w2.heap.size A2 L) := Lib.hid (fun u hn => by
    obtain ⟨g, cap, e, hB, hlt, _⟩ := ho2.form hn
    injection e with e1 e2 e3
    subst e1
    obtain ⟨b, off, e, hb, hc⟩ := hr2 hn
    injection e with e; injection e with e1 e2 e3
    subst e1; subst e2
    have hz9 := hb1.size
    simp only [World.size_alloc] at hz9
    exact ⟨g, 0, rfl, hb, fun j u' hu => (World.cell?_setCell_other _ _ _ _ (fun e => by injection e with e; omega)).trans (hc j u' hu)⟩)
  clear hr2 ho2
  have hz2 := hb2.size
  have M2 := Lib.hid (boxed_below M1.out hb2 (by omega))
  have R2 := Lib.hid (boxed_below R1.out hb2 (by omega))
  have cm2 := M2.out.cell
  have fm2 := M2.out.frozen
  have cr2 := R2.out.cell
  have fr2 := R2.out.frozen
  clear cr1 fr1
  have hl2 : w.heap.size + 1 < w2.heap.size := by omega
  have hl3 : w.heap.size < w2.heap.size := by omega
  gi_wp2_with fail
  refine ⟨trivial, ?_⟩
  refine (callsIn_wide.2 (path_any x n _)).mono ?_
  rintro e w' ⟨rfl, rfl⟩
  gi_wp2_with fail
  generalize hW0 : World.alloc _ _ = W0
  obtain ⟨z, hz⟩ : ∃ z, z = w2.heap.size := ⟨_, rfl⟩
  have hb0 : Below w.heap.size w W0 := by
    rw [← hW0]
    exact (((((Below.trans (((Below.refl _ _).alloc (Nat.le_refl _) _).alloc (by simp) _) ((hb1.mono (by simp; omega)).trans (hb2.mono (by omega)))).setCell (p := ⟨w.heap.size, 0, none⟩) (Nat.le_refl _) _).alloc (by simp; omega) _).alloc (by simp; omega) _).alloc (by simp; omega) _).alloc (by simp; omega) _
  have hP0 : PInv w.heap.size (w.heap.size + 1) z (z + 1) (1 + j) (.slice A2 L.length c2) A2 L 0 W0 := by
    rw [← hW0, hz]
    refine ⟨(((((M2.out.set _).alloc _).alloc _).alloc _).alloc _), ⟨false, ((((boxed_far R2.out (by omega) _).alloc _).alloc _).alloc _).alloc _⟩, ?_, ?_, ?_⟩
    · have := Boxed.new (w2.setCell ⟨w.heap.size, 0, none⟩ (.int .i64 (1 + (j : Int)))) 23 (.slice A2 L.length c2)
      rw [World.size_setCell] at this
      exact ((this.alloc _).alloc _).alloc _
    · have := Boxed.new ((w2.setCell ⟨w.heap.size, 0, none⟩ (.int .i64 (1 + (j : Int)))).alloc (.cells #[.slice A2 L.length c2] 23)) 3 (.int .i64 0)
      rw [World.size_alloc, World.size_setCell] at this
      exact ((this.alloc _).alloc _)
    · have hr : Rd i64v (w2.setCell ⟨w.heap.size, 0, none⟩ (.int .i64 (1 + (j : Int)))) w2.heap.size A2 L := HRd.out _
      exact (((hr.alloc (by simp) _).alloc (by simp) _).alloc (by simp; omega) _).alloc (by simp; omega) _
  have hX : Boxed W0 (z + 2) 3 (.int .i64 x) ∧ Boxed W0 (z + 3) 3 (.int .i64 n) ∧ W0.heap.size = z + 4 := by
    rw [← hW0, hz]
    refine ⟨?_, ?_, by simp⟩
    · have := Boxed.new (((w2.setCell ⟨w.heap.size, 0, none⟩ (.int .i64 (1 + (j : Int)))).alloc (.cells #[.slice A2 L.length c2] 23)).alloc (.cells #[.int .i64 0] 3)) 3 (.int .i64 x)
      simp only [World.size_alloc, World.size_setCell] at this
      exact this.alloc _
    · have := Boxed.new ((((w2.setCell ⟨w.heap.size, 0, none⟩ (.int .i64 (1 + (j : Int)))).alloc (.cells #[.slice A2 L.length c2] 23)).alloc (.cells #[.int .i64 0] 3)).alloc (.cells #[.int .i64 x] 3)) 3 (.int .i64 n)
      simp only [World.size_alloc, World.size_setCell] at this
      exact this
  obtain ⟨hXb, hNb, hsz⟩ := hX
  have hTW : Tab W0 := tab_below HT.out HT.out.lt hb0
  rw [← hz]
  have hl4 : w.heap.size + 1 < z := by omega
  clear hW0 cm2 fm2 cr2 fr2 hl2 hl3 hz1 hz2 hb1 hb2 T1 M1 R1 M2 R2 H2 HRd hz
  refine wpIn_rangeFunc_ownF rfl (by omega) (gf := 27) (lb := #[.pointer (some ⟨z + 1 + 1, 0, none⟩), .pointer (some ⟨z + 1 + 1 + 1, 0, none⟩)]) rfl trivial (enters_of Tryd.func27 (by kernel_rfl) rfl)
    (path_stops 8 (by omega) x n hx h1 h2 (z + 2) (z + 3) w.heap.size HT.out.lt W0 hXb.cell hNb.cell hTW) KpP.t (fun W l o o' hl ho hc hw => ⟨(Below.refl _ W).grown (grownBy_putObj' W l o') (by have := (Array.getElem?_eq_some_iff.1 ho).1; omega) (fun k e => by cases e; omega), World.putObj_heap_other (by omega)⟩) (Below.refl _ _) (fun _ => rfl)
    (fun pre W => (PInv w.heap.size (w.heap.size + 1) z (z + 1) (1 + j) (.slice A2 L.length c2) A2 L pre.length W ∧ pre <+: L ∧ pre.length < 1 + j) ∧ Below w.heap.size w W)
    (fun c pre W => ((c = .ret ∧ ¬ pre <+: L) ∨ (c = .exit 0 ∧ PInv w.heap.size (w.heap.size + 1) z (z + 1) (1 + j) (.slice A2 L.length c2) A2 L pre.length W ∧ pre <+: L ∧ pre.length = 1 + j)) ∧ Below w.heap.size w W)
    (OwnFrom.and (Go.Own.from (fun s A B row hs hg hr => ⟨hs.1.own hg hr, hs.2⟩) _) (ownFrom_below (Nat.le_refl _) (by omega)))
    (fun c => OwnFrom.and (Go.Own.from (fun s A B row hs hg hr => hs.elim .inl (fun h => .inr ⟨h.1, h.2.1.own hg hr, h.2.2⟩)) _) (ownFrom_below (Nat.le_refl _) (by omega)))
    ⟨⟨hP0, List.nil_prefix, by simp; omega⟩, hb0⟩
    (fun y => { tmps := #[.int .i64 x, .int .i64 n, .int .i64 most, undef, undef, .pointer (some ⟨w.heap.size, 0, none⟩), .pointer (some ⟨w.heap.size + 1, 0, none⟩), .pointer (some ⟨z, 0, none⟩), .pointer (some ⟨z + 1, 0, none⟩), .int .i64 y, .bool true, .bool false, .int .i64 x, .int .i64 n, .slice A2 L.length c2, .int .i64 most, .int .u64 (IntKind.u64.wrap most), .int .u64 j, .int .i64 j, .int .i64 (1 + j), .int .i64 x, .int .i64 n, .func (.func 27) #[] #[.pointer (some ⟨z + 1 + 1, 0, none⟩), .pointer (some ⟨z + 1 + 1 + 1, 0, none⟩)], .int .i64 y, undef, undef, undef, undef, undef, undef, undef, undef, undef, undef, undef, undef, undef, undef, undef, undef, undef, undef, undef, undef, undef, undef, undef], defers := [] }) ?assign ?body ?done ?stop
  case assign =>
    intro l x W K hK
    gi_wp2
    exact hK
  case body =>
    rintro l pre y W ⟨⟨hP, hpre, hlt⟩, hB⟩ hN
    rw [← HL.out] at hN
    have HP := Lib.hid hP
    obtain ⟨bM, ⟨b, bR⟩, bW, bK, rd⟩ := hP
    have hps := prefix_snoc hpre hN y
    obtain ⟨b', off, rfl, hb', hc⟩ := rd.at_ hN
    obtain ⟨u, hu⟩ : ∃ u, u = L[pre.length] := ⟨_, rfl⟩
    rw [← hu] at hps hc
    have cM := bM.cell
    have cR := bR.cell
    have fR := bR.frozen
    have cW := bW.cell
    have cK := bK.cell
    have fK := bK.frozen
    have hc' : W.cell? ⟨b', off + pre.length, none⟩ = some (.int .i64 u) := hc
    have hg : decide (L.length ≤ pre.length) = false := by simp; omega
    have Hps := Lib.hid hps
    clear hu hc hps bM bR bW bK rd
    by_cases hyu : y = u
    · have hyu' : (y != u) = false := by simpa using hyu
      have Hyu := Lib.hid hyu
      clear hyu
      by_cases hkm : pre.length = j
      · have hkm' : (((pre.length : Int) + 1) == 1 + (j : Int)) = true := by rw [beq_iff_eq]; omega
        have Hkm := Lib.hid hkm
        clear hkm
        gi_wp2
        exact ⟨KeepsOthers.setCell _ _ _, .inr ⟨rfl, (by have := HP.out.k (k' := pre.length + 1) (by omega) (by omega) (by omega); rw [List.length_append]; exact this), Hps.out.2 Hyu.out, by have := Hkm.out; simp; omega⟩, hB.setCell (p := ⟨z + 1, 0, none⟩) (by simp; omega) _⟩
      · have hkm' : (((pre.length : Int) + 1) == 1 + (j : Int)) = false := by rw [beq_eq_false_iff_ne]; omega
        gi_wp2
        exact ⟨KeepsOthers.setCell _ _ _, ⟨(Below.refl w.heap.size W).setCell (p := ⟨z + 1, 0, none⟩) (by simp; omega) _, Below.heap_setCell _ _ _ _ (by simp)⟩, ⟨(by have := HP.out.k (k' := pre.length + 1) (by omega) (by omega) (by omega); rw [List.length_append]; exact this), Hps.out.2 Hyu.out, by simp; omega⟩, hB.setCell (p := ⟨z + 1, 0, none⟩) (by simp; omega) _⟩
    · have hyu' : (y != u) = true := by simpa using hyu
      gi_wp2
      exact ⟨KeepsOthers.setCell _ _ _, .inl ⟨rfl, fun h => hyu (Hps.out.1 h)⟩, hB.setCell (p := ⟨w.heap.size + 1, 0, none⟩) (by simp) _⟩
  case done =>
    rintro D ys W hD hys ⟨⟨hP, hpre, hlt⟩, hB⟩ hK
    obtain rfl : ys = L := hys.trans HL.out.symm
    clear hys
    obtain ⟨bM, ⟨b, bR⟩, bW, bK, rd⟩ := hP
    have cM := bM.cell
    have cR := bR.cell
    have fR := bR.frozen
    have cW := bW.cell
    have cK := bK.cell
    have BR := Lib.hid bR
    clear bM bR bW bK rd
    gi_wp2
    have hK' := (KeepsOthers.setCell W ⟨w.heap.size + 1, 0, none⟩ (.bool true)).same D _ hK rfl
    refine ⟨by simp, .inl ⟨_, _, rfl, run_takeDeferred hK', ?_⟩⟩
    have hc5 := cell_kept (World.cell?_setCell_same' W ⟨w.heap.size + 1, 0, none⟩ (.bool true) (by rw [cR]; rfl)) (grownBy_putObj' _ D (.deferred none)) (fun r e => by cases e; exact ⟨_, hK', rfl⟩)
    refine ⟨.bool true, ?_, rfl, (hB.setCell (p := ⟨w.heap.size + 1, 0, none⟩) (by simp) _).trans (belowK_b (w := w) (Nat.le_refl _) _ D _ _ (by omega) hK' rfl rfl)⟩
    simp [results, Tryd.f3, go_sem, hc5]
  case stop =>
    rintro D c pre W hD hpre ⟨hcase, hB⟩ hK
    rw [← HL.out] at hpre
    rcases hcase with ⟨rfl, hn⟩ | ⟨rfl, hP, _, hlt⟩
    · exact absurd hpre hn
    obtain ⟨bM, ⟨b, bR⟩, bW, bK, rd⟩ := hP
    have cM := bM.cell
    have cR := bR.cell
    have fR := bR.frozen
    have cW := bW.cell
    have cK := bK.cell
    have BR := Lib.hid bR
    have hle := hpre.length_le
    clear bM bR bW bK rd
    gi_wp2
    have hK' := (KeepsOthers.setCell W ⟨w.heap.size + 1, 0, none⟩ (.bool true)).same D _ hK rfl
    refine ⟨by simp, .inl ⟨_, _, rfl, run_takeDeferred hK', ?_⟩⟩
    have hc5 := cell_kept (World.cell?_setCell_same' W ⟨w.heap.size + 1, 0, none⟩ (.bool true) (by rw [cR]; rfl)) (grownBy_putObj' _ D (.deferred none)) (fun r e => by cases e; exact ⟨_, hK', rfl⟩)
    refine ⟨.bool true, ?_, rfl, (hB.setCell (p := ⟨w.heap.size + 1, 0, none⟩) (by simp) _).trans (belowK_b (w := w) (Nat.le_refl _) _ D _ _ (by omega) hK' rfl rfl)⟩
    simp [results, Tryd.f3, go_sem, hc5]
end Go.Proofs.YtlkgklplcbmimaaDoor
