/- CONTRACTS: the reader of the document's chapter 9: take, num. -/
import Derived.Test.YtloglpamnalmeaaReadNode
namespace Go.Proofs.Ytloglpamnalmeaa
open Go.RowKit
set_option linter.unusedVariables false
set_option linter.unusedSimpArgs false

/-- the document's reader at g: what is still to read; its count of faults is nought just if nothing was wrong, and at most K -/
structure Rin (w : World) (B g : Nat) (s : St) (K : Nat) : Prop where
  at_ : ∃ (A : Option Addr) (c q : Nat), Blk w g 155 [.slice A s.1.length c, .int .i64 (q : Int)] ∧ Rd b8 w B A s.1 ∧ s.1.length ≤ c ∧ q ≤ K ∧ (s.2 = false ↔ q = 0)
  le : B ≤ g
section
variable {w w' : World} {B g K : Nat} {s : St}
theorem Rin.lt (h : Rin w B g s K) : g < w.heap.size := by obtain ⟨⟨A, c, q, h1, -⟩, -⟩ := h; exact h1.lt
theorem Rin.size (h : Rin w B g s K) : B ≤ w.heap.size := by have := h.lt; have := h.le; omega
theorem Rin.below {C : Nat} (h : Rin w B g s K) (hb : Below C w w') (hC : w.heap.size ≤ C) : Rin w' B g s K := by
  have hz := h.size
  have hl := h.lt
  obtain ⟨⟨A, c, q, h1, h2, h3⟩, h4⟩ := h
  exact ⟨⟨A, c, q, h1.below hb (by omega), h2.below (hb.mono (by omega)), h3⟩, h4⟩
theorem Rin.low {C : Nat} (h : Rin w B g s K) (hb : Below C w w') (hg : g < C) : Rin w' B g s K := by
  have hle := h.le
  obtain ⟨⟨A, c, q, h1, h2, h3⟩, h4⟩ := h
  exact ⟨⟨A, c, q, h1.below hb hg, h2.below (hb.mono (by omega)), h3⟩, h4⟩
theorem Rin.grown {k : Nat} (h : Rin w B g s K) (hg : w.grownBy w' (some k)) (hk : k ≠ g) (hgk : g < k) : Rin w' B g s K := by
  have hz := h.size
  have hle := h.le
  obtain ⟨⟨A, c, q, h1, h2, h3⟩, h4⟩ := h
  exact ⟨⟨A, c, q, h1.grown hg (by intro e; exact hk (Option.some.inj e).symm), h2.below (below_grown hg (by omega) hz), h3⟩, h4⟩
theorem Rin.more {K' : Nat} (h : Rin w B g s K) (hK : K ≤ K') : Rin w B g s K' := by
  obtain ⟨⟨A, c, q, h1, h2, h3, h4, h5⟩, h6⟩ := h
  exact ⟨⟨A, c, q, h1, h2, h3, by omega, h5⟩, h6⟩
/-- where nothing was wrong the count is nought -/
theorem Rin.none_ (h : Rin w B g s K) (hs : s.2 = false) : Rin w B g s 0 := by
  obtain ⟨⟨A, c, q, h1, h2, h3, h4, h5⟩, h6⟩ := h
  exact ⟨⟨A, c, q, h1, h2, h3, by have := h5.1 hs; omega, h5⟩, h6⟩
theorem Rin.q (h : Rin w B g s K) : ∃ q : Nat, w.cell? ⟨g, 1, none⟩ = some (.int .i64 (q : Int)) ∧ w.frozen? ⟨g, 1, none⟩ = false ∧ q ≤ K ∧ (s.2 = false ↔ q = 0) := by
  obtain ⟨⟨A, c, q, h1, h2, h3, h4, h5⟩, h6⟩ := h
  exact ⟨q, h1.cell 1 rfl, h1.frozen 1, h4, h5⟩
end
attribute [local go_sem high] sliced_zero
set_option maxRecDepth 100000 in
set_option maxHeartbeats 1000000 in
theorem rtake_any {w : World} {B g K : Nat} {s : St} (hE : Rin w B g s K) (N : Nat) (hy : s.1.length ≤ 100000000) (hN : N ≤ 100000000) (hK : K ≤ 1000000) :
    Calls Try.prog 97 #[.pointer (some ⟨g, 0, none⟩), .int .i64 (N : Int)] w fun e w' => ∃ v, e = .returned v ∧ Own b8 w' w.heap.size 5 v (pTk N s).1 ∧ Rin w' B g (pTk N s).2 (K + 1) ∧ w.grownBy w' (some g) := by
  obtain ⟨ys, bad⟩ := s
  show Calls _ _ _ _ fun e w' => ∃ v, e = .returned v ∧ Own b8 w' w.heap.size 5 v (tkO N ys) ∧ Rin w' B g (tkR N ys, tkB N ys bad) (K + 1) ∧ w.grownBy w' (some g)
  replace hy : ys.length ≤ 100000000 := hy
  obtain ⟨i0, hi0, hz0, hz1, hz2⟩ := info_parts infoU8
  have hsz := hE.size
  have hgl := hE.lt
  have hle := hE.le
  obtain ⟨⟨A, c, q, h1, hr, hc, hqK, hqb⟩, -⟩ := hE
  replace hr : Rd b8 w B A ys := hr
  replace h1 : Blk w g 155 [.slice A ys.length c, .int .i64 (q : Int)] := h1
  replace hc : ys.length ≤ c := hc
  replace hqb : bad = false ↔ q = 0 := hqb
  have H1 := Lib.hid h1
  have HR := Lib.hid hr
  have HQB := Lib.hid hqb
  have c0 := h1.cell 0 rfl
  have c1 := h1.cell 1 rfl
  have f0 := h1.frozen 0
  have f1 := h1.frozen 1
  clear h1 hr hqb
  obtain ⟨l, hl⟩ : ∃ l, l = ys.length := ⟨_, rfl⟩
  rw [← hl] at c0 hc hy
  have Hl := Lib.hid hl
  by_cases hlt : ys.length < N
  · have e1 : tkO N ys = List.replicate N 0#8 := if_pos hlt
    have e2 : tkR N ys = ys := if_pos hlt
    have e3 : tkB N ys bad = true := if_pos hlt
    rw [e1, e2, e3]
    have hlt' : (l : Int) < (N : Int) := by omega
    clear e1 e2 e3 hlt hl
    go_enter Try.func97, Try.ntmps97
    go_wp2_with (refine wpList_make_full _ rfl (.tmp 20) (.tmp 20) 24 rfl w.heap.size 5 i0 _ 1 Try.underlying24 hi0 hz0 hz1 .i64 .i64 (N : Int) (N : Int) N rfl rfl rfl rfl (by rw [hz2]; omega) (by simp [maxLen]; omega) (by simp) ?_; intro w3 hown3 hg3; have HO3 := Lib.hid (show Own b8 w3 w.heap.size 5 _ (List.replicate N 0#8) from own_zeros hown3); have HG3 := Lib.hid hg3; clear hown3 hg3)
    go_ret
    have hb : Below g (w.setCell ⟨g, 1, none⟩ (.int .i64 ((q : Int) + 1))) w3 := (Below.refl _ _).grown HG3.out (by simp; omega) (fun k e => by cases e)
    have hbB : Below B w w3 := ((Below.refl B w).setCell (p := ⟨g, 1, none⟩) hle _).trans (hb.mono hle)
    refine ⟨_, rfl, (by have := HO3.out; rw [World.size_setCell] at this; exact this), ⟨⟨A, c, q + 1, ?_, (HR.out.below hbB), by rw [← Hl.out]; exact hc, by omega, by simp⟩, hle⟩, grownBy_trans (grownBy_set w g 1 _) HG3.out (fun _ e => by cases e)⟩
    exact (H1.out.set_ 1 (.int .i64 ((q : Int) + 1))).grown HG3.out (by simp)
  · have e1 : tkO N ys = ys.take N := if_neg hlt
    have e2 : tkR N ys = ys.drop N := if_neg hlt
    have e3 : tkB N ys bad = bad := if_neg hlt
    rw [e1, e2, e3]
    have hlt' : ((l : Int) < (N : Int)) = False := by simp; omega
    have hNl : N ≤ l := by omega
    have hNl' : (N : Int) ≤ (l : Int) := by omega
    have hNc : N ≤ c := by omega
    have hNc' : (N : Int) ≤ (c : Int) := by omega
    have hN0 : (0 : Int) ≤ (N : Int) := by omega
    have HLit := Lib.hid (Own.lit b8 w w.heap.size 5 [] (Nat.le_refl _) (by simp))
    have HTl := Lib.hid (show N = (ys.take N).length by rw [List.length_take, ← Hl.out]; omega)
    clear e1 e2 e3 hlt hl
    by_cases hcN : c = N
    · obtain rfl : N = c := hcN.symm
      obtain rfl : N = l := by omega
      go_enter Try.func97, Try.ntmps97
      go_wp2_with (at_builtin; refine wpList_append_rd rfl (.tmp 22) (.tmp 28) 24 rfl b8_one w.heap.size 5 i0 _ 1 Try.underlying24 hi0 hz0 hz1 hz2 rfl _ _ rfl HLit.out B A N N (ys.take N) rfl HTl.out ((HR.out.take N).alloc hsz _) (by rw [← HTl.out]; simp [maxLen]; omega) (by rw [← HTl.out]; simp; omega) (by simp) ?_; intro v1 w1 hown7 hg7 hbb7; have HO1 := Lib.hid hown7; have hb1 := hbb7 _ _ (Nat.le_refl _) ((Below.refl _ w).alloc (Nat.le_refl _) _); have hz1' : w.heap.size ≤ w1.heap.size := hb1.size; have h11 := H1.out.below hb1 hgl; have H11 := Lib.hid h11; have HR1 := Lib.hid (HR.out.below (hb1.mono hsz)); have c0 := h11.cell 0 (by rw [← Hl.out]; rfl); have f0 := h11.frozen 0; have HB1 := Lib.hid hb1; clear h11 hown7 hg7 hbb7 hb1)
      go_ret
      have hst := H11.out.set_ 0 (.slice A 0 0)
      have hne : v1.ownBlock ≠ some g := fun e => by have := (HO1.out.lt g e).1; omega
      refine ⟨_, rfl, (HO1.out.cast (List.nil_append _)).kept (grownBy_set w1 g 0 _) (.inr hne), ⟨⟨A, 0, q, ?_, ?_, ?_, by omega, HQB.out⟩, hle⟩, grownBy_trans (grownBy_any (grown_none' HB1.out) (some g)) (grownBy_set w1 g 0 _) (fun _ e => .inl e)⟩
      · show Blk _ g _ [.slice A (ys.drop N).length 0, _]
        rw [List.length_drop, ← Hl.out]; first | exact hst | (rw [Nat.sub_self]; exact hst)
      · have := (HR1.out.cut (d := N) (by rw [← Hl.out]; exact hc) N).keep (w' := w1.setCell ⟨g, 0, none⟩ (.slice A 0 0)) (fun p hp => World.cell?_setCell_other _ _ _ _ (fun e => by subst e; simp at hp; omega))
        unfold cutA at this
        simpa [hcN] using this
      · show (ys.drop N).length ≤ 0
        rw [List.length_drop, ← Hl.out]; omega
    · skip
      go_enter Try.func97, Try.ntmps97
      go_wp2_with (at_builtin; refine wpList_append_rd rfl (.tmp 22) (.tmp 28) 24 rfl b8_one w.heap.size 5 i0 _ 1 Try.underlying24 hi0 hz0 hz1 hz2 rfl _ _ rfl HLit.out B A N c (ys.take N) rfl HTl.out ((HR.out.take N).alloc hsz _) (by rw [← HTl.out]; simp [maxLen]; omega) (by rw [← HTl.out]; simp; omega) (by simp) ?_; intro v1 w1 hown7 hg7 hbb7; have HO1 := Lib.hid hown7; have hb1 := hbb7 _ _ (Nat.le_refl _) ((Below.refl _ w).alloc (Nat.le_refl _) _); have hz1' : w.heap.size ≤ w1.heap.size := hb1.size; have h11 := H1.out.below hb1 hgl; have H11 := Lib.hid h11; have HR1 := Lib.hid (HR.out.below (hb1.mono hsz)); have c0 := h11.cell 0 (by rw [← Hl.out]; rfl); have f0 := h11.frozen 0; have HB1 := Lib.hid hb1; clear h11 hown7 hg7 hbb7 hb1)
      go_ret
      have hst := H11.out.set_ 0 (.slice (A.map (·.add N)) (l - N) (c - N))
      have hne : v1.ownBlock ≠ some g := fun e => by have := (HO1.out.lt g e).1; omega
      refine ⟨_, rfl, (HO1.out.cast (List.nil_append _)).kept (grownBy_set w1 g 0 _) (.inr hne), ⟨⟨(A.map (·.add N)), (c - N), q, ?_, ?_, ?_, by omega, HQB.out⟩, hle⟩, grownBy_trans (grownBy_any (grown_none' HB1.out) (some g)) (grownBy_set w1 g 0 _) (fun _ e => .inl e)⟩
      · show Blk _ g _ [.slice (A.map (·.add N)) (ys.drop N).length (c - N), _]
        rw [List.length_drop, ← Hl.out]; first | exact hst | (rw [Nat.sub_self]; exact hst)
      · have := (HR1.out.cut (d := c) (by rw [← Hl.out]; exact hc) N).keep (w' := w1.setCell ⟨g, 0, none⟩ (.slice (A.map (·.add N)) (l - N) (c - N))) (fun p hp => World.cell?_setCell_other _ _ _ _ (fun e => by subst e; simp at hp; omega))
        unfold cutA at this
        simpa [hcN] using this
      · show (ys.drop N).length ≤ (c - N)
        rw [List.length_drop, ← Hl.out]; omega
end Go.Proofs.Ytloglpamnalmeaa

/- CONTRACTS: the reader of the document's chapter 9: num, key, sum, wide. -/
namespace Go.Proofs.Ytloglpamnalmeaa
open Go.RowKit
set_option linter.unusedVariables false
set_option linter.unusedSimpArgs false

set_option maxRecDepth 100000 in
set_option maxHeartbeats 1000000 in
theorem rnum_any {w : World} {B g K : Nat} {s : St} (hE : Rin w B g s K) (N : Nat) (si : Int) (hsi : si = (N : Int)) (hs : N ≤ 4) (hy : s.1.length ≤ 100000000) (hK : K ≤ 1000000) :
    Calls Try.prog 94 #[.pointer (some ⟨g, 0, none⟩), .int .i64 si] w fun e w' => e = .returned (.int .i64 ((pNum N s).1 : Int)) ∧ Rin w' B g (pNum N s).2 (K + 1) ∧ w.grownBy w' (some g) := by
  subst hsi
  have ht := rtake_any hE N hy (by omega) hK
  obtain ⟨out, hout⟩ : ∃ out, out = (pTk N s).1 := ⟨_, rfl⟩
  have hol : out.length = N := by rw [hout]; exact pTk_len _ _
  have hp1 : (pNum N s).1 = beVal out := by rw [hout]; rfl
  have hp2 : (pNum N s).2 = (pTk N s).2 := rfl
  rw [← hout] at ht
  rw [hp1, hp2]
  have HT := Lib.hid ht
  have HOl := Lib.hid hol
  clear ht hout hol hp1 hp2
  have hsz := hE.size
  clear hE
  generalize (pTk N s).2 = s2 at HT ⊢
  go_enter Try.func94, Try.ntmps94
  go_wp2_with fail
  refine HT.out.mono ?_
  rintro e w1 ⟨v1, rfl, ho1, he1, hb1⟩
  have HE1 := Lib.hid he1
  have HB1 := Lib.hid hb1
  obtain ⟨A1, c1, rfl, hr1, -, -, -⟩ := ho1.shape' HOl.out
  have HR1 := Lib.hid hr1
  clear ho1 he1 hb1 hr1
  go_wp2_with fail
  go_loop [5, 7] (fun nv iv => ∃ k : Nat, k ≤ N ∧ iv = .int .i64 (k : Int) ∧ nv = .int .i64 (beVal (out.take k) : Int)) (fun _ iv => N - (intOf iv).toNat)
  case atStart => exact ⟨0, by omega, rfl, rfl⟩
  case round =>
    obtain ⟨k, hk, rfl, rfl⟩ := hrel
    by_cases hlt : k < N
    · have hlt' : (k : Int) < (N : Int) := by omega
      obtain ⟨b, off, rfl, hb, hc⟩ := HR1.out.at_ (k := k) (by rw [HOl.out]; exact hlt)
      obtain ⟨x, hx⟩ : ∃ x, x = out[k]'(by rw [HOl.out]; exact hlt) := ⟨_, rfl⟩
      rw [← hx] at hc
      have hc' : w1.cell? ⟨b, off + k, none⟩ = some (.int .u8 (bv x)) := hc
      have hnext : beVal (out.take (k + 1)) = 256 * beVal (out.take k) + x.toNat := by
        rw [hx, ← beVal_snoc]; congr 1; simp
      have HNx := Lib.hid hnext
      have hml : beVal (out.take k) < 256 ^ k := beVal_lt k _ (by rw [List.length_take, HOl.out]; omega)
      have hml2 : beVal (out.take k) < 16777216 := Nat.lt_of_lt_of_le hml (Nat.le_trans (Nat.pow_le_pow_right (by omega) (show k ≤ 3 by omega)) (by decide))
      obtain ⟨M, hM⟩ : ∃ M, M = beVal (out.take k) := ⟨_, rfl⟩
      rw [← hM] at hml2 ⊢
      have HM := Lib.hid hM
      have hxl := x.isLt
      clear hx hc hnext hml hM
      go_wp2_with fail
      refine ⟨⟨k + 1, by omega, rfl, ?_⟩, by simp [intOf]; omega⟩
      rw [HNx.out, ← HM.out, IntWalk.wrap64_in _ (by unfold bv; omega)]
      exact congrArg (Value.int .i64) (by unfold bv; omega)
    · obtain rfl : k = N := by omega
      have e : out.take k = out := List.take_of_length_le (by rw [HOl.out]; exact Nat.le_refl _)
      rw [e]
      clear e
      go_wp2_with fail
      go_ret
      exact ⟨rfl, HE1.out, HB1.out⟩
set_option maxRecDepth 100000 in
set_option maxHeartbeats 1000000 in
theorem rkey_any {w : World} {B g K : Nat} {s : St} (hE : Rin w B g s K) (hy : s.1.length ≤ 100000000) (hK : K ≤ 1000000) :
    Calls Try.prog 114 #[.pointer (some ⟨g, 0, none⟩)] w fun e w' => e = .returned (.agg ((pTk 32 s).1.map b8).toArray) ∧ Rin w' B g (pTk 32 s).2 (K + 1) ∧ w.grownBy w' (some g) := by
  have hsz := hE.size
  have hgl := hE.lt
  have hle := hE.le
  obtain ⟨W0, hW0⟩ : ∃ W0, W0 = (w.alloc (.cells ((List.replicate 32 0#8).map b8).toArray 47)).alloc (.cells ((List.replicate 32 0#8).map b8).toArray 47) := ⟨_, rfl⟩
  have hb0 : Below w.heap.size w W0 := by rw [hW0]; exact ((Below.refl w.heap.size w).alloc (Nat.le_refl _) _).alloc (by simp) _
  have HP := Lib.hid (show Arr b8 W0 w.heap.size 47 (List.replicate 32 0#8) by rw [hW0]; exact (Arr.new b8 w 47 (List.replicate 32 0#8)).alloc _)
  have HA := Lib.hid (show Arr b8 W0 (w.heap.size + 1) 47 (List.replicate 32 0#8) by rw [hW0]; exact Arr.at_size b8 _ _ (by simp))
  have hsw : w.heap.size + 2 ≤ W0.heap.size := by rw [hW0]; simp
  have ht := rtake_any (hE.below hb0 (Nat.le_refl _)) 32 hy (by omega) hK
  obtain ⟨out, hout⟩ : ∃ out, out = (pTk 32 s).1 := ⟨_, rfl⟩
  have hol : out.length = 32 := by rw [hout]; exact pTk_len _ _
  rw [← hout] at ht ⊢
  generalize (pTk 32 s).2 = s2 at ht ⊢
  have HT := Lib.hid ht
  have HOl := Lib.hid hol
  have HB0 := Lib.hid hb0
  have HW0 := Lib.hid hW0
  clear ht hout hol hE hb0 hW0
  go_enter Try.func114, Try.ntmps114
  go_wp2_with fail
  generalize hW1 : World.alloc (World.alloc w _) _ = W1
  obtain rfl : W1 = W0 := by rw [← hW1, HW0.out]; rfl
  clear hW1
  refine HT.out.mono ?_
  rintro e w1 ⟨v1, rfl, ho1, he1, hb1⟩
  obtain ⟨A1, c1, rfl, hr1, -, -, -⟩ := ho1.shape' HOl.out
  have HO1 := Lib.hid ho1
  have HE1 := Lib.hid he1
  have HG1 := Lib.hid (show w.grownBy w1 (some g) from grownBy_trans (grownBy_any (grown_none' HB0.out) (some g)) hb1 (fun _ e => .inl e))
  have hz1 : w.heap.size + 2 ≤ w1.heap.size := by have := hb1.size; omega
  have HA1 := Lib.hid (HA.out.grown hb1 (by intro e; have := Option.some.inj e; omega))
  have HP1 := Lib.hid (HP.out.grown hb1 (by intro e; have := Option.some.inj e; omega))
  clear ho1 he1 hb1 hr1 HA HP HT HW0 HB0
  go_wp2_with fail
  go_loopw [5] (fun iv wr => ∃ k : Nat, k ≤ 32 ∧ iv = .int .i64 (k : Int) ∧ Arr b8 wr (w.heap.size + 1) 47 (out.take k ++ List.replicate (32 - k) 0#8) ∧ w1.grownBy wr (some (w.heap.size + 1))) (fun iv _ => 32 - (intOf iv).toNat)
  case atStart => exact ⟨0, by omega, rfl, HA1.out, World.grownBy.refl _ _⟩
  case round =>
    obtain ⟨k, hk, rfl, ha, hg⟩ := hrel
    have HAk := Lib.hid ha
    have HGk := Lib.hid hg
    have hzk : w.heap.size + 2 ≤ wr.heap.size := Nat.le_trans hz1 hg.size
    have HOk := Lib.hid (HO1.out.kept hg (.inr (fun e => by have := (HO1.out.lt _ e).1; omega)))
    clear ha hg
    by_cases hlt : k < 32
    · have hlt' : (k : Int) < 32 := by omega
      obtain ⟨b, off, rfl, hb, hc⟩ := (HOk.out.rd).at_ (k := k) (by rw [HOl.out]; exact hlt)
      obtain ⟨x, hx⟩ : ∃ x, x = out[k]'(by rw [HOl.out]; exact hlt) := ⟨_, rfl⟩
      rw [← hx] at hc
      have hc' : wr.cell? ⟨b, off + k, none⟩ = some (.int .u8 (bv x)) := hc
      have hl : (out.take k ++ List.replicate (32 - k) 0#8).length = 32 := by rw [List.length_append, List.length_take, List.length_replicate, HOl.out]; omega
      have hold := HAk.out.cell (k := k) (by rw [hl]; exact hlt)
      have hfr := HAk.out.frozen k
      have hst := HAk.out.set_ k x
      have hnew : (out.take k ++ List.replicate (32 - k) 0#8).set k x = out.take (k + 1) ++ List.replicate (32 - (k + 1)) 0#8 := by
        rw [List.set_append_right _ _ (by rw [List.length_take, HOl.out]; omega), List.length_take, HOl.out, show k - min k 32 = 0 by omega, show 32 - k = (32 - (k + 1)) + 1 by omega, List.replicate_succ, List.set_cons_zero, List.take_succ_eq_append_getElem (by rw [HOl.out]; exact hlt), ← hx, List.append_assoc]
        rfl
      rw [hnew] at hst
      have HSt := Lib.hid hst
      have HGn := Lib.hid (grownBy_trans HGk.out (grownBy_set wr (w.heap.size + 1) k (b8 x)) (fun _ e => .inl e))
      generalize (out.take k ++ List.replicate (32 - k) 0#8)[k]'(by rw [hl]; exact hlt) = z0 at hold
      have hold' : wr.cell? ⟨w.heap.size + 1, k, none⟩ = some (.int .u8 (bv z0)) := hold
      clear hx hc hl hold hst hnew
      go_wp2_with fail
      go_roundw
      case rel => exact ⟨k + 1, by omega, by go_num, HSt.out, HGn.out⟩
      case measure => simp [intOf]; omega
    · obtain rfl : k = 32 := by omega
      have hfin : out.take 32 ++ List.replicate (32 - 32) 0#8 = out := by rw [List.take_of_length_le (by rw [HOl.out]; exact Nat.le_refl _)]; simp
      have HAf := Lib.hid (HAk.out.cast hfin)
      have HPk := Lib.hid (HP1.out.grown HGk.out (by intro e; have := Option.some.inj e; omega))
      clear hfin
      go_wp2_with (first
        | (refine wpList_load_arr (op := { dst := some 18, op := _, type := _, pos := _, after := _, guard := _ }) rfl 47 (.tmp 3) rfl (w.heap.size + 1) rfl _ out HAf.out _ Try.underlying47 rfl (by rw [HOl.out]; exact infoKeyE) ?_)
        | (refine wpList_store_arr rfl 47 _ _ rfl w.heap.size rfl out rfl _ _ HPk.out (by rw [HOl.out]; rfl) (by rw [HOl.out]; exact infoKeyE) b8_one' ?_; intro w3 hp3 hg3; have HP3 := Lib.hid hp3; have HG3 := Lib.hid hg3; clear hp3 hg3))
      refine bodyPost_ret (v := .agg (out.map b8).toArray) (results_arr (g := w.heap.size) rfl _ _ _ _ _ rfl HP3.out Try.underlying47 rfl (by rw [HOl.out]; exact infoKeyE)) rfl ?_
      have hgr : w.grownBy wr (some g) := grownBy_trans HG1.out HGk.out (fun _ e => .inr (by cases e; omega))
      refine ⟨rfl, ?_, grownBy_trans hgr HG3.out (fun _ e => .inr (by cases e; exact Nat.le_refl _))⟩
      exact ((HE1.out.grown HGk.out (by omega) (by omega)).grown HG3.out (by omega) (by omega))
set_option maxRecDepth 100000 in
set_option maxHeartbeats 1000000 in
theorem rwide_any {w : World} {B g K : Nat} {s : St} (hE : Rin w B g s K) (hy : s.1.length ≤ 100000000) (hK : K ≤ 1000000) :
    Calls Try.prog 96 #[.pointer (some ⟨g, 0, none⟩)] w fun e w' => e = .returned (.agg ((pTk 64 s).1.map b8).toArray) ∧ Rin w' B g (pTk 64 s).2 (K + 1) ∧ w.grownBy w' (some g) := by
  have hsz := hE.size
  have hgl := hE.lt
  have hle := hE.le
  obtain ⟨W0, hW0⟩ : ∃ W0, W0 = (w.alloc (.cells ((List.replicate 64 0#8).map b8).toArray 62)).alloc (.cells ((List.replicate 64 0#8).map b8).toArray 62) := ⟨_, rfl⟩
  have hb0 : Below w.heap.size w W0 := by rw [hW0]; exact ((Below.refl w.heap.size w).alloc (Nat.le_refl _) _).alloc (by simp) _
  have HP := Lib.hid (show Arr b8 W0 w.heap.size 62 (List.replicate 64 0#8) by rw [hW0]; exact (Arr.new b8 w 62 (List.replicate 64 0#8)).alloc _)
  have HA := Lib.hid (show Arr b8 W0 (w.heap.size + 1) 62 (List.replicate 64 0#8) by rw [hW0]; exact Arr.at_size b8 _ _ (by simp))
  have hsw : w.heap.size + 2 ≤ W0.heap.size := by rw [hW0]; simp
  have ht := rtake_any (hE.below hb0 (Nat.le_refl _)) 64 hy (by omega) hK
  obtain ⟨out, hout⟩ : ∃ out, out = (pTk 64 s).1 := ⟨_, rfl⟩
  have hol : out.length = 64 := by rw [hout]; exact pTk_len _ _
  rw [← hout] at ht ⊢
  generalize (pTk 64 s).2 = s2 at ht ⊢
  have HT := Lib.hid ht
  have HOl := Lib.hid hol
  have HB0 := Lib.hid hb0
  have HW0 := Lib.hid hW0
  clear ht hout hol hE hb0 hW0
  go_enter Try.func96, Try.ntmps96
  go_wp2_with fail
  generalize hW1 : World.alloc (World.alloc w _) _ = W1
  obtain rfl : W1 = W0 := by rw [← hW1, HW0.out]; rfl
  clear hW1
  refine HT.out.mono ?_
  rintro e w1 ⟨v1, rfl, ho1, he1, hb1⟩
  obtain ⟨A1, c1, rfl, hr1, -, -, -⟩ := ho1.shape' HOl.out
  have HO1 := Lib.hid ho1
  have HE1 := Lib.hid he1
  have HG1 := Lib.hid (show w.grownBy w1 (some g) from grownBy_trans (grownBy_any (grown_none' HB0.out) (some g)) hb1 (fun _ e => .inl e))
  have hz1 : w.heap.size + 2 ≤ w1.heap.size := by have := hb1.size; omega
  have HA1 := Lib.hid (HA.out.grown hb1 (by intro e; have := Option.some.inj e; omega))
  have HP1 := Lib.hid (HP.out.grown hb1 (by intro e; have := Option.some.inj e; omega))
  clear ho1 he1 hb1 hr1 HA HP HT HW0 HB0
  go_wp2_with fail
  go_loopw [5] (fun iv wr => ∃ k : Nat, k ≤ 64 ∧ iv = .int .i64 (k : Int) ∧ Arr b8 wr (w.heap.size + 1) 62 (out.take k ++ List.replicate (64 - k) 0#8) ∧ w1.grownBy wr (some (w.heap.size + 1))) (fun iv _ => 64 - (intOf iv).toNat)
  case atStart => exact ⟨0, by omega, rfl, HA1.out, World.grownBy.refl _ _⟩
  case round =>
    obtain ⟨k, hk, rfl, ha, hg⟩ := hrel
    have HAk := Lib.hid ha
    have HGk := Lib.hid hg
    have hzk : w.heap.size + 2 ≤ wr.heap.size := Nat.le_trans hz1 hg.size
    have HOk := Lib.hid (HO1.out.kept hg (.inr (fun e => by have := (HO1.out.lt _ e).1; omega)))
    clear ha hg
    by_cases hlt : k < 64
    · have hlt' : (k : Int) < 64 := by omega
      obtain ⟨b, off, rfl, hb, hc⟩ := (HOk.out.rd).at_ (k := k) (by rw [HOl.out]; exact hlt)
      obtain ⟨x, hx⟩ : ∃ x, x = out[k]'(by rw [HOl.out]; exact hlt) := ⟨_, rfl⟩
      rw [← hx] at hc
      have hc' : wr.cell? ⟨b, off + k, none⟩ = some (.int .u8 (bv x)) := hc
      have hl : (out.take k ++ List.replicate (64 - k) 0#8).length = 64 := by rw [List.length_append, List.length_take, List.length_replicate, HOl.out]; omega
      have hold := HAk.out.cell (k := k) (by rw [hl]; exact hlt)
      have hfr := HAk.out.frozen k
      have hst := HAk.out.set_ k x
      have hnew : (out.take k ++ List.replicate (64 - k) 0#8).set k x = out.take (k + 1) ++ List.replicate (64 - (k + 1)) 0#8 := by
        rw [List.set_append_right _ _ (by rw [List.length_take, HOl.out]; omega), List.length_take, HOl.out, show k - min k 64 = 0 by omega, show 64 - k = (64 - (k + 1)) + 1 by omega, List.replicate_succ, List.set_cons_zero, List.take_succ_eq_append_getElem (by rw [HOl.out]; exact hlt), ← hx, List.append_assoc]
        rfl
      rw [hnew] at hst
      have HSt := Lib.hid hst
      have HGn := Lib.hid (grownBy_trans HGk.out (grownBy_set wr (w.heap.size + 1) k (b8 x)) (fun _ e => .inl e))
      generalize (out.take k ++ List.replicate (64 - k) 0#8)[k]'(by rw [hl]; exact hlt) = z0 at hold
      have hold' : wr.cell? ⟨w.heap.size + 1, k, none⟩ = some (.int .u8 (bv z0)) := hold
      clear hx hc hl hold hst hnew
      go_wp2_with fail
      go_roundw
      case rel => exact ⟨k + 1, by omega, by go_num, HSt.out, HGn.out⟩
      case measure => simp [intOf]; omega
    · obtain rfl : k = 64 := by omega
      have hfin : out.take 64 ++ List.replicate (64 - 64) 0#8 = out := by rw [List.take_of_length_le (by rw [HOl.out]; exact Nat.le_refl _)]; simp
      have HAf := Lib.hid (HAk.out.cast hfin)
      have HPk := Lib.hid (HP1.out.grown HGk.out (by intro e; have := Option.some.inj e; omega))
      clear hfin
      go_wp2_with (first
        | (refine wpList_load_arr (op := { dst := some 18, op := _, type := _, pos := _, after := _, guard := _ }) rfl 62 (.tmp 3) rfl (w.heap.size + 1) rfl _ out HAf.out _ Try.underlying62 rfl (by rw [HOl.out]; exact infoWideE) ?_)
        | (refine wpList_store_arr rfl 62 _ _ rfl w.heap.size rfl out rfl _ _ HPk.out (by rw [HOl.out]; rfl) (by rw [HOl.out]; exact infoWideE) b8_one' ?_; intro w3 hp3 hg3; have HP3 := Lib.hid hp3; have HG3 := Lib.hid hg3; clear hp3 hg3))
      refine bodyPost_ret (v := .agg (out.map b8).toArray) (results_arr (g := w.heap.size) rfl _ _ _ _ _ rfl HP3.out Try.underlying62 rfl (by rw [HOl.out]; exact infoWideE)) rfl ?_
      have hgr : w.grownBy wr (some g) := grownBy_trans HG1.out HGk.out (fun _ e => .inr (by cases e; omega))
      refine ⟨rfl, ?_, grownBy_trans hgr HG3.out (fun _ e => .inr (by cases e; exact Nat.le_refl _))⟩
      exact ((HE1.out.grown HGk.out (by omega) (by omega)).grown HG3.out (by omega) (by omega))
set_option maxRecDepth 100000 in
theorem rsum_any {w : World} {B g K : Nat} {s : St} (hE : Rin w B g s K) (hy : s.1.length ≤ 100000000) (hK : K ≤ 1000000) :
    Calls Try.prog 93 #[.pointer (some ⟨g, 0, none⟩)] w fun e w' => e = .returned (.agg ((pTk 32 s).1.map b8).toArray) ∧ Rin w' B g (pTk 32 s).2 (K + 1) ∧ w.grownBy w' (some g) := by
  have hgl := hE.lt
  have HP := Lib.hid (Arr.new b8 w 23 (List.replicate 32 0#8))
  have ht := rkey_any (hE.below ((Below.refl w.heap.size w).alloc (Nat.le_refl _) (.cells ((List.replicate 32 0#8).map b8).toArray 23)) (Nat.le_refl _)) hy hK
  obtain ⟨out, hout⟩ : ∃ out, out = (pTk 32 s).1 := ⟨_, rfl⟩
  have hol : out.length = 32 := by rw [hout]; exact pTk_len _ _
  rw [← hout] at ht ⊢
  generalize (pTk 32 s).2 = s2 at ht ⊢
  have HT := Lib.hid ht
  have HOl := Lib.hid hol
  clear ht hout hol hE
  go_enter Try.func93, Try.ntmps93
  go_wp2_with fail
  refine HT.out.mono ?_
  rintro e w1 ⟨rfl, he1, hb1⟩
  have HE1 := Lib.hid he1
  have hz1 : w.heap.size + 1 ≤ w1.heap.size := by have := hb1.size; simpa using this
  have HP1 := Lib.hid (HP.out.grown hb1 (by intro e; have := Option.some.inj e; omega))
  have HG1 := Lib.hid (grownBy_trans (World.grownBy_alloc w (.cells ((List.replicate 32 0#8).map b8).toArray 23) (some g)) hb1 (fun _ e => .inl e))
  clear he1 hb1 HP HT
  go_wp2_with (refine wpList_store_arr rfl 23 _ _ rfl w.heap.size rfl out rfl _ _ HP1.out (by rw [HOl.out]; rfl) (by rw [HOl.out]; exact infoSumE) b8_one' ?_; intro w3 hp3 hg3; have HP3 := Lib.hid hp3; have HG3 := Lib.hid hg3; clear hp3 hg3)
  refine bodyPost_ret (v := .agg (out.map b8).toArray) (results_arr (g := w.heap.size) rfl _ _ _ _ _ rfl HP3.out Try.underlying23 rfl (by rw [HOl.out]; exact infoSumE)) rfl ?_
  exact ⟨rfl, HE1.out.grown HG3.out (by omega) (by omega), grownBy_trans HG1.out HG3.out (fun _ e => .inr (by cases e; exact Nat.le_refl _))⟩
end Go.Proofs.Ytloglpamnalmeaa
