/- CONTRACTS: slices.Clone, the eye of package wire: take, number, sum, row. -/
import Derived.Test.YtloglpamnalmeaaPens
import Derived.Laws.EntriesVeiled
namespace Go.Proofs.Ytloglpamnalmeaa
open Go.RowKit
set_option linter.unusedVariables false
set_option linter.unusedSimpArgs false

theorem sliced_zero (a : Option Addr) (h m s : Nat) : sliced a 0 h m s = .slice a h m := by
  unfold sliced
  rw [Nat.zero_mul, Nat.sub_zero, Nat.sub_zero]
  cases a <;> simp [Addr.add]
def cutA (a : Option Addr) (l m : Nat) : Option Addr := if m = l then a else a.map (·.add l)
theorem Rd.cut {α : Type} {f : α → Value} {w : World} {B : Nat} {A : Option Addr} {xs : List α} (h : Rd f w B A xs) {d : Nat} (hd : xs.length ≤ d) (k : Nat) : Rd f w B (cutA A k d) (xs.drop k) := by
  unfold cutA
  split
  · rw [List.drop_eq_nil_of_le (by omega)]; exact Rd.nil_ _ _ _ _
  · exact h.drop k
attribute [local go_sem high] sliced_zero

theorem run_eql_slice_nil {P : Program} (w : World) (t e : TypeId) (a : Option Addr) (l c : Nat) (h : P.underlying t = some (.slice e)) : (binOp .eql t (.slice a l c) (.slice none 0 0)).run P w = .ok (.bool a.isNone) w := by
  show ((do return .bool (← Op.equal t (.slice a l c) (.slice none 0 0)) : Sem Value)).run P w = _
  simp only [Sem.run_bind, run_equal_slice_nil (h := h), Result.andThen_ok]
  rfl
set_option maxRecDepth 100000 in
theorem clone_any {w : World} {B' : Nat} {A : Option Addr} {n c : Nat} {ys : List (BitVec 8)} (hr : Rd b8 w B' A ys) (hB' : B' ≤ w.heap.size) (hn : ys.length = n) (hy : n ≤ 100000000) :
    Calls Try.prog 115 #[.slice A n c] w fun e w' => ∃ v, e = .returned v ∧ Own b8 w' w.heap.size 5 v ys ∧ Below w.heap.size w w' := by
  obtain ⟨i0, hi0, hz0, hz1, hz2⟩ := info_parts infoU8
  have HR := Lib.hid hr
  have HN := Lib.hid hn
  have heq := fun (A : Option Addr) w => run_eql_slice_nil (P := Try.prog) w 24 5 A n c Try.underlying24
  cases A with
  | none =>
    replace heq := heq none
    have hy0 : ys = [] := by
      by_cases h : ys = []
      · exact h
      · obtain ⟨b, off, e, -⟩ := hr (List.length_pos_iff.2 h)
        cases e
    have Hy0 := Lib.hid hy0
    clear hr hn hy0
    go_enter Try.func115, Try.ntmps115
    go_wp2
    go_ret
    exact ⟨_, rfl, (Own.nil_ _ _ _ _).cast Hy0.out.symm, Below.refl _ _⟩
  | some a =>
    replace heq := heq (some a)
    have hlit := Own.lit b8 w w.heap.size 5 [] (Nat.le_refl _) (by simp)
    have HLit := Lib.hid hlit
    clear hr hn hlit
    go_enter Try.func115, Try.ntmps115
    go_wp2_with (at_builtin; refine wpList_append_rd rfl (.tmp 5) (.tmp 6) 24 rfl b8_one w.heap.size 5 i0 _ 1 Try.underlying24 hi0 hz0 hz1 hz2 rfl _ _ rfl HLit.out B' (some a) n c ys rfl HN.out.symm (HR.out.alloc hB' _) (by have := HN.out; simp [maxLen]; omega) (by have := HN.out; simp; omega) (by simp) ?_; intro v7 w7 hown7 hg7 hbb7; have HO7 := Lib.hid hown7; have HB7 := Lib.hid (hbb7 _ _ (Nat.le_refl _) ((Below.refl _ w).alloc (Nat.le_refl _) _)); clear hown7 hg7 hbb7)
    go_ret
    exact ⟨_, rfl, HO7.out, HB7.out⟩

theorem own_zeros {w : World} {B N : Nat} {v : Value} (h : w.ownsRow B 5 1 v N (madeCells (Value.int .u8 0).cells (N * 1)).toList) : Own b8 w B 5 v (List.replicate N 0#8) := by
  unfold Own
  rw [List.length_replicate, List.map_replicate]
  have e : (madeCells (Value.int .u8 0).cells (N * 1)).toList = List.replicate N (b8 0#8) := by rw [Nat.mul_one]; exact toList_madeCells_one _ _
  rw [← e]
  exact h
/-- what is taken from bytes, what is left, and whether something was missing -/
def tkO (N : Nat) (ys : List (BitVec 8)) : List (BitVec 8) := if ys.length < N then List.replicate N 0#8 else ys.take N
def tkR (N : Nat) (ys : List (BitVec 8)) : List (BitVec 8) := if ys.length < N then ys else ys.drop N
def tkB (N : Nat) (ys : List (BitVec 8)) (bad : Bool) : Bool := if ys.length < N then true else bad
theorem tkO_len (N : Nat) (ys : List (BitVec 8)) : (tkO N ys).length = N := by
  unfold tkO; split
  · simp
  · rw [List.length_take]; omega
theorem tkR_le (N : Nat) (ys : List (BitVec 8)) : (tkR N ys).length ≤ ys.length := by
  unfold tkR; split
  · exact Nat.le_refl _
  · rw [List.length_drop]; omega
/-- an eye at g that has ys still to read -/
structure Eye (w : World) (B g : Nat) (ys : List (BitVec 8)) (bad : Bool) : Prop where
  at_ : ∃ A c, Blk w g 121 [.slice A ys.length c, .bool bad] ∧ Rd b8 w B A ys ∧ ys.length ≤ c
  le : B ≤ g
theorem Eye.lt {w : World} {B g : Nat} {ys : List (BitVec 8)} {bad : Bool} (h : Eye w B g ys bad) : g < w.heap.size := by obtain ⟨⟨A, c, h1, h2⟩, h3⟩ := h; exact h1.lt
theorem Eye.size {w : World} {B g : Nat} {ys : List (BitVec 8)} {bad : Bool} (h : Eye w B g ys bad) : B ≤ w.heap.size := by have := h.lt; have := h.le; omega
theorem Eye.below {w w' : World} {B g C : Nat} {ys : List (BitVec 8)} {bad : Bool} (h : Eye w B g ys bad) (hb : Below C w w') (hC : w.heap.size ≤ C) : Eye w' B g ys bad := by
  have hz := h.size
  have hl := h.lt
  obtain ⟨⟨A, c, h1, h2, h3⟩, h4⟩ := h
  exact ⟨⟨A, c, h1.below hb (by omega), h2.below (hb.mono (by omega)), h3⟩, h4⟩

theorem grown_none' {w w' : World} (hb : Below w.heap.size w w') : w.grownBy w' none := ⟨hb.os, hb.tape, hb.output, hb.size, fun k hk _ => hb.block k hk⟩
theorem below_grown {w w' : World} {B g : Nat} (h : w.grownBy w' (some g)) (hle : B ≤ g) (hB : B ≤ w.heap.size) : Below B w w' := (Below.refl B w).grown h hB (fun k e => by cases e; exact hle)
set_option maxRecDepth 100000 in
set_option maxHeartbeats 1000000 in
theorem take_any {w : World} {B g : Nat} {ys : List (BitVec 8)} {bad : Bool} (hE : Eye w B g ys bad) (N : Nat) (hy : ys.length ≤ 100000000) (hN : N ≤ 100000000) :
    Calls Try.prog 99 #[.pointer (some ⟨g, 0, none⟩), .int .i64 (N : Int)] w fun e w' => ∃ v, e = .returned v ∧ Own b8 w' w.heap.size 5 v (tkO N ys) ∧ Eye w' B g (tkR N ys) (tkB N ys bad) ∧ w.grownBy w' (some g) := by
  obtain ⟨i0, hi0, hz0, hz1, hz2⟩ := info_parts infoU8
  have hsz := hE.size
  have hgl := hE.lt
  have hle := hE.le
  obtain ⟨⟨A, c, h1, hr, hc⟩, -⟩ := hE
  have H1 := Lib.hid h1
  have HR := Lib.hid hr
  have c0 := h1.cell 0 rfl
  have c1 := h1.cell 1 rfl
  have f0 := h1.frozen 0
  have f1 := h1.frozen 1
  clear h1 hr
  obtain ⟨l, hl⟩ : ∃ l, l = ys.length := ⟨_, rfl⟩
  rw [← hl] at c0 hc hy
  have Hl := Lib.hid hl
  by_cases hlt : ys.length < N
  · have e1 : tkO N ys = List.replicate N 0#8 := if_pos hlt
    have e2 : tkR N ys = ys := if_pos hlt
    have e3 : tkB N ys bad = true := if_pos hlt
    rw [e1, e2, e3]
    have hlt' : (l : Int) < (N : Int) := by omega
    clear e1 e2 e3 hlt hl
    go_enter Try.func99, Try.ntmps99
    go_wp2_with (refine wpList_make_full _ rfl (.tmp 16) (.tmp 16) 24 rfl w.heap.size 5 i0 _ 1 Try.underlying24 hi0 hz0 hz1 .i64 .i64 (N : Int) (N : Int) N rfl rfl rfl rfl (by rw [hz2]; omega) (by simp [maxLen]; omega) (by simp) ?_; intro w3 hown3 hg3; have HO3 := Lib.hid (show Own b8 w3 w.heap.size 5 _ (List.replicate N 0#8) from own_zeros hown3); have HG3 := Lib.hid hg3; clear hown3 hg3)
    go_ret
    have hb : Below g (w.setCell ⟨g, 1, none⟩ (.bool true)) w3 := (Below.refl _ _).grown HG3.out (by simp; omega) (fun k e => by cases e)
    have hbB : Below B w w3 := ((Below.refl B w).setCell (p := ⟨g, 1, none⟩) hle _).trans (hb.mono hle)
    refine ⟨_, rfl, (by have := HO3.out; rw [World.size_setCell] at this; exact this), ⟨⟨A, c, ?_, (HR.out.below hbB), by rw [← Hl.out]; exact hc⟩, hle⟩, grownBy_trans (grownBy_set w g 1 _) HG3.out (fun _ e => by cases e)⟩
    exact (H1.out.set_ 1 (.bool true)).grown HG3.out (by simp)
  · have e1 : tkO N ys = ys.take N := if_neg hlt
    have e2 : tkR N ys = ys.drop N := if_neg hlt
    have e3 : tkB N ys bad = bad := if_neg hlt
    rw [e1, e2, e3]
    have hlt' : ((l : Int) < (N : Int)) = False := by simp; omega
    have hNl : N ≤ l := by omega
    have hNl' : (N : Int) ≤ (l : Int) := by omega
    have hNc : N ≤ c := by omega
    have hNc' : (N : Int) ≤ (c : Int) := by omega
    have hN0 : (0 : Int) ≤ (N : Int) := by omega
    clear e1 e2 e3 hlt hl
    by_cases hcN : c = N
    · obtain rfl : N = c := hcN.symm
      obtain rfl : N = l := by omega
      go_enter Try.func99, Try.ntmps99
      go_wp2_with fail
      refine (clone_any (HR.out.take N) hsz (by rw [List.length_take, ← Hl.out]; omega) (by omega)).mono ?_
      rintro e w1 ⟨v1, rfl, ho1, hb1⟩
      have hz1 : w.heap.size ≤ w1.heap.size := hb1.size
      have h11 := H1.out.below hb1 hgl
      have H11 := Lib.hid h11
      have HR1 := Lib.hid (HR.out.below (hb1.mono hsz))
      have HO1 := Lib.hid ho1
      have c0 := h11.cell 0 (by rw [← Hl.out]; rfl)
      have f0 := h11.frozen 0
      have HB1 := Lib.hid hb1
      clear h11 ho1 hb1 c1 f1
      go_wp2_with fail
      go_ret
      have hst := H11.out.set_ 0 (.slice A 0 0)
      have hne : v1.ownBlock ≠ some g := fun e => by have := (HO1.out.lt g e).1; omega
      refine ⟨_, rfl, HO1.out.kept (grownBy_set w1 g 0 _) (.inr hne), ⟨⟨A, 0, ?_, ?_, by rw [List.length_drop, ← Hl.out]; omega⟩, hle⟩, grownBy_trans (grownBy_any (grown_none' HB1.out) (some g)) (grownBy_set w1 g 0 _) (fun _ e => .inl e)⟩
      · rw [List.length_drop, ← Hl.out]; first | exact hst | (rw [Nat.sub_self]; exact hst)
      · have := (HR1.out.cut (d := N) (by rw [← Hl.out]; exact hc) N).keep (w' := w1.setCell ⟨g, 0, none⟩ (.slice A 0 0)) (fun p hp => World.cell?_setCell_other _ _ _ _ (fun e => by subst e; simp at hp; omega))
        unfold cutA at this
        simpa [hcN] using this
    · skip
      go_enter Try.func99, Try.ntmps99
      go_wp2_with fail
      refine (clone_any (HR.out.take N) hsz (by rw [List.length_take, ← Hl.out]; omega) (by omega)).mono ?_
      rintro e w1 ⟨v1, rfl, ho1, hb1⟩
      have hz1 : w.heap.size ≤ w1.heap.size := hb1.size
      have h11 := H1.out.below hb1 hgl
      have H11 := Lib.hid h11
      have HR1 := Lib.hid (HR.out.below (hb1.mono hsz))
      have HO1 := Lib.hid ho1
      have c0 := h11.cell 0 (by rw [← Hl.out]; rfl)
      have f0 := h11.frozen 0
      have HB1 := Lib.hid hb1
      clear h11 ho1 hb1 c1 f1
      go_wp2_with fail
      go_ret
      have hst := H11.out.set_ 0 (.slice (A.map (·.add N)) (l - N) (c - N))
      have hne : v1.ownBlock ≠ some g := fun e => by have := (HO1.out.lt g e).1; omega
      refine ⟨_, rfl, HO1.out.kept (grownBy_set w1 g 0 _) (.inr hne), ⟨⟨(A.map (·.add N)), (c - N), ?_, ?_, by rw [List.length_drop, ← Hl.out]; omega⟩, hle⟩, grownBy_trans (grownBy_any (grown_none' HB1.out) (some g)) (grownBy_set w1 g 0 _) (fun _ e => .inl e)⟩
      · rw [List.length_drop, ← Hl.out]; first | exact hst | (rw [Nat.sub_self]; exact hst)
      · have := (HR1.out.cut (d := c) (by rw [← Hl.out]; exact hc) N).keep (w' := w1.setCell ⟨g, 0, none⟩ (.slice (A.map (·.add N)) (l - N) (c - N))) (fun p hp => World.cell?_setCell_other _ _ _ _ (fun e => by subst e; simp at hp; omega))
        unfold cutA at this
        simpa [hcN] using this
end Go.Proofs.Ytloglpamnalmeaa

/- CONTRACTS: the eye of package wire: number, sum, row. -/
namespace Go.Proofs.Ytloglpamnalmeaa
open Go.RowKit
set_option linter.unusedVariables false
set_option linter.unusedSimpArgs false

/-- bytes as a number, the highest first -/
def beVal (xs : List (BitVec 8)) : Nat := xs.foldl (fun a x => 256 * a + x.toNat) 0
theorem beVal_snoc (xs : List (BitVec 8)) (x : BitVec 8) : beVal (xs ++ [x]) = 256 * beVal xs + x.toNat := by unfold beVal; rw [List.foldl_append]; rfl
theorem beVal_lt : ∀ (k : Nat) (xs : List (BitVec 8)), xs.length = k → beVal xs < 256 ^ k
  | 0, xs, h => by rw [List.length_eq_zero_iff.1 h]; simp [beVal]
  | k + 1, xs, h => by
    obtain ⟨ys, y, rfl⟩ : ∃ ys y, xs = ys ++ [y] := ⟨xs.dropLast, xs.getLast (by intro e; rw [e] at h; simp at h), (List.dropLast_concat_getLast _).symm⟩
    have := beVal_lt k ys (by simpa using h)
    rw [beVal_snoc, Nat.pow_succ]
    have := y.isLt
    omega

theorem or_push (M : Nat) (x : BitVec 8) (h : M < 16777216) : bits .or .i64 ((M : Int) * 256) (bv x) = ((256 * M + x.toNat : Nat) : Int) := by
  show IntKind.i64.wrap (((BitVec.ofInt 64 ((M : Int) * 256) ||| BitVec.ofInt 64 (bv x)).toNat : Nat) : Int) = _
  have e1 : (BitVec.ofInt 64 ((M : Int) * 256)).toNat = M * 256 := by rw [BitVec.toNat_ofInt]; omega
  have e2 : (BitVec.ofInt 64 (bv x)).toNat = x.toNat := by have := x.isLt; rw [BitVec.toNat_ofInt]; unfold bv; omega
  have e3 : M * 256 ||| x.toNat = M * 256 + x.toNat := by
    have := Nat.shiftLeft_add_eq_or_of_lt (i := 8) (b := x.toNat) x.isLt M
    rw [Nat.shiftLeft_eq] at this
    exact this.symm
  rw [BitVec.toNat_or, e1, e2, e3]
  have := x.isLt
  rw [IntWalk.i64_in _ (by omega)]
  omega
set_option maxRecDepth 100000 in
set_option maxHeartbeats 1000000 in
theorem numE_any {w : World} {B g : Nat} {ys : List (BitVec 8)} {bad : Bool} (hE : Eye w B g ys bad) (s : Nat) (si : Int) (hsi : si = (s : Int)) (hs : s ≤ 4) (hy : ys.length ≤ 100000000) :
    Calls Try.prog 60 #[.pointer (some ⟨g, 0, none⟩), .int .i64 si] w fun e w' => e = .returned (.int .i64 (beVal (tkO s ys) : Int)) ∧ Eye w' B g (tkR s ys) (tkB s ys bad) ∧ w.grownBy w' (some g) := by
  subst hsi
  obtain ⟨out, hout⟩ : ∃ out, out = tkO s ys := ⟨_, rfl⟩
  have hol : out.length = s := by rw [hout]; exact tkO_len _ _
  have ht := take_any hE s hy (by omega)
  rw [← hout] at ht ⊢
  have HT := Lib.hid ht
  have HOl := Lib.hid hol
  clear ht hout hol
  have hsz := hE.size
  clear hE
  go_enter Try.func60, Try.ntmps60
  go_wp2_with fail
  refine HT.out.mono ?_
  rintro e w1 ⟨v1, rfl, ho1, he1, hb1⟩
  have HE1 := Lib.hid he1
  have HB1 := Lib.hid hb1
  obtain ⟨A1, c1, rfl, hr1, -, -, -⟩ := ho1.shape' HOl.out
  have HR1 := Lib.hid hr1
  clear ho1 he1 hb1 hr1
  go_wp2_with fail
  go_loopw [5, 7, 12] (fun nv cv iv wr => ∃ k : Nat, k ≤ s ∧ iv = .int .i64 (k : Int) ∧ nv = .int .i64 (beVal (out.take k) : Int) ∧ wr = w1) (fun _ _ iv _ => s - (intOf iv).toNat)
  case atStart => exact ⟨0, by omega, rfl, rfl, rfl⟩
  case round =>
    obtain ⟨k, hk, rfl, rfl, rfl⟩ := hrel
    by_cases hlt : k < s
    · have hlt' : (k : Int) < (s : Int) := by omega
      obtain ⟨b, off, rfl, hb, hc⟩ := HR1.out.at_ (k := k) (by rw [HOl.out]; exact hlt)
      obtain ⟨x, hx⟩ : ∃ x, x = out[k]'(by rw [HOl.out]; exact hlt) := ⟨_, rfl⟩
      rw [← hx] at hc
      have hc' : wr.cell? ⟨b, off + k, none⟩ = some (.int .u8 (bv x)) := hc
      have hnext : beVal (out.take (k + 1)) = 256 * beVal (out.take k) + x.toNat := by
        rw [hx, ← beVal_snoc]; congr 1; simp
      have HNx := Lib.hid hnext
      have hml : beVal (out.take k) < 256 ^ k := beVal_lt k _ (by rw [List.length_take, HOl.out]; omega)
      have hml2 : beVal (out.take k) < 16777216 := Nat.lt_of_lt_of_le hml (Nat.le_trans (Nat.pow_le_pow_right (by omega) (show k ≤ 3 by omega)) (by decide))
      obtain ⟨M, hM⟩ : ∃ M, M = beVal (out.take k) := ⟨_, rfl⟩
      rw [← hM] at hml2 ⊢
      have HM := Lib.hid hM
      clear hx hc hnext hml hM
      go_wp2_with fail
      refine ⟨⟨k + 1, by omega, rfl, ?_, trivial⟩, by simp [intOf]; omega⟩
      rw [or_push M x hml2, HNx.out, ← HM.out]
    · obtain rfl : k = s := by omega
      have e : out.take k = out := List.take_of_length_le (by rw [HOl.out]; exact Nat.le_refl _)
      rw [e]
      clear e
      go_wp2_with fail
      go_ret
      exact ⟨rfl, HE1.out, HB1.out⟩

set_option maxRecDepth 100000 in
theorem rowE_any {w : World} {B g : Nat} {ys : List (BitVec 8)} {bad : Bool} (hE : Eye w B g ys bad) (hy : ys.length ≤ 100000000) :
    Calls Try.prog 61 #[.pointer (some ⟨g, 0, none⟩)] w fun e w' => ∃ v, e = .returned v ∧ Own b8 w' w.heap.size 5 v (tkO (beVal (tkO 2 ys)) (tkR 2 ys)) ∧ Eye w' B g (tkR (beVal (tkO 2 ys)) (tkR 2 ys)) (tkB (beVal (tkO 2 ys)) (tkR 2 ys) (tkB 2 ys bad)) ∧ w.grownBy w' (some g) := by
  have HN := Lib.hid (numE_any hE 2 2 rfl (by omega) hy)
  have hN := beVal_lt 2 (tkO 2 ys) (tkO_len _ _)
  have hR := tkR_le 2 ys
  clear hE
  generalize beVal (tkO 2 ys) = N at HN hN ⊢
  generalize tkR 2 ys = zs at HN hR ⊢
  generalize tkB 2 ys bad = bad' at HN ⊢
  go_enter Try.func61, Try.ntmps61
  go_wp2_with fail
  refine HN.out.mono ?_
  rintro e w1 ⟨rfl, he1, hb1⟩
  have HE1 := Lib.hid he1
  have HB1 := Lib.hid hb1
  clear he1 hb1
  go_wp2_with fail
  refine (take_any HE1.out N (by omega) (by simp at hN; omega)).mono ?_
  rintro e w2 ⟨v2, rfl, ho2, he2, hb2⟩
  have HO2 := Lib.hid ho2
  have HE2 := Lib.hid he2
  have HB2 := Lib.hid hb2
  clear ho2 he2 hb2
  go_wp2_with fail
  go_ret
  exact ⟨_, rfl, HO2.out.less HB1.out.size, HE2.out, grownBy_trans HB1.out HB2.out (fun _ e => .inl e)⟩

theorem rd_range {w : World} {B b off : Nat} {xs : List (BitVec 8)} (h : Rd b8 w B (some ⟨b, off, none⟩) xs) : w.rangeAt b off (xs.map b8) := fun j v hv => by
  rw [List.getElem?_map, Option.map_eq_some_iff] at hv
  obtain ⟨u, hu, rfl⟩ := hv
  obtain ⟨b', off', e, -, hc⟩ := h (by have := (List.getElem?_eq_some_iff.1 hu).1; omega)
  cases e
  exact hc j u hu
theorem eye_grown {w w' : World} {B g k : Nat} {ys : List (BitVec 8)} {bad : Bool} (h : Eye w B g ys bad) (hg : w.grownBy w' (some k)) (hk : k ≠ g) (hgk : g < k) : Eye w' B g ys bad := by
  have hz := h.size
  have hle := h.le
  obtain ⟨⟨A, c, h1, h2, h3⟩, h4⟩ := h
  exact ⟨⟨A, c, h1.grown hg (by intro e; exact hk (Option.some.inj e).symm), h2.below (below_grown hg (by omega) hz), h3⟩, h4⟩
theorem infoSumE : (Try.prog.info? 23).map (·.size) = some 32 := by kernel_rfl
set_option maxRecDepth 100000 in
set_option maxHeartbeats 1000000 in
theorem sumE_any {w : World} {B g : Nat} {ys : List (BitVec 8)} {bad : Bool} (hE : Eye w B g ys bad) (hy : ys.length ≤ 100000000) :
    Calls Try.prog 59 #[.pointer (some ⟨g, 0, none⟩)] w fun e w' => e = .returned (arrV b8 (tkO 32 ys)) ∧ Eye w' B g (tkR 32 ys) (tkB 32 ys bad) ∧ w.grownBy w' (some g) := by
  obtain ⟨out, hout⟩ : ∃ out, out = tkO 32 ys := ⟨_, rfl⟩
  have hol : out.length = 32 := by rw [hout]; exact tkO_len _ _
  have hsz := hE.size
  have hgl := hE.lt
  have hle := hE.le
  have HW := Lib.hid ((Below.refl w.heap.size w).alloc (Nat.le_refl _) (.cells ((List.replicate 32 0#8).map b8).toArray 23))
  have HA := Lib.hid (Arr.new b8 w 23 (List.replicate 32 0#8))
  have ht := take_any (hE.below ((Below.refl w.heap.size w).alloc (Nat.le_refl _) (.cells ((List.replicate 32 0#8).map b8).toArray 23)) (Nat.le_refl _)) 32 hy (by omega)
  rw [← hout] at ht ⊢
  have HT := Lib.hid ht
  have HOl := Lib.hid hol
  clear ht hout hol hE
  rw [arrV_mk]
  go_enter Try.func59, Try.ntmps59
  go_wp2_with fail
  refine HT.out.mono ?_
  rintro e w1 ⟨v1, rfl, ho1, he1, hb1⟩
  obtain ⟨A1, c1, rfl, hr1, -, -, -⟩ := ho1.shape' HOl.out
  obtain ⟨b, cap, e1, hbB, hblt, -⟩ := ho1.form' HOl.out (by omega)
  cases e1
  have HR1 := Lib.hid (rd_range hr1)
  have HE1 := Lib.hid he1
  have HG1 := Lib.hid hb1
  have hz1 : w.heap.size + 1 ≤ w1.heap.size := by have := hb1.size; simpa using this
  have HA1 := Lib.hid (HA.out.grown hb1 (by intro e; have := Option.some.inj e; omega))
  have harr : ∀ w, (Instr.arrayAt 23 (.slice (some ⟨b, 0, none⟩) 32 c1)).run Try.prog w = .ok (.pointer (some ⟨b, 0, none⟩)) w := fun w => by kernel_rfl
  clear ho1 he1 hb1 hr1
  go_wp2_with (first
    | (refine wpList_load_mid rfl 23 (.tmp 5) rfl b 0 rfl (out.map b8) _ HR1.out Try.underlying23 rfl (by rw [List.length_map, HOl.out]; exact infoSumE) ?_)
    | (refine wpList_store_arr rfl 23 _ _ rfl w.heap.size rfl out rfl _ _ HA1.out (by rw [HOl.out]; rfl) (by rw [HOl.out]; exact infoSumE) b8_one' ?_; intro w3 hp3 hg3; have HP3 := Lib.hid hp3; have HG3 := Lib.hid hg3; clear hp3 hg3))
  have hne : w.heap.size ≠ g := by omega
  refine bodyPost_ret (v := .agg (out.map b8).toArray) (results_arr (g := w.heap.size) rfl _ _ _ _ _ rfl HP3.out Try.underlying23 rfl (by rw [HOl.out]; exact infoSumE)) rfl ?_
  have hg : w.grownBy w3 (some g) := grownBy_trans (grownBy_trans (World.grownBy_alloc w _ (some g)) HG1.out (fun _ e => .inl e)) HG3.out (fun k e => by cases e; exact .inr (Nat.le_refl _))
  refine ⟨rfl, ?_, hg⟩
  exact eye_grown HE1.out HG3.out hne hgl
end Go.Proofs.Ytloglpamnalmeaa

/- CONTRACTS: slices.Equal; whole blocks stored and loaded. -/
namespace Go.Proofs.Ytloglpamnalmeaa
open Go.RowKit
set_option linter.unusedVariables false
set_option linter.unusedSimpArgs false

/-- a whole block is stored over -/
theorem wpList_store_blk {P : Program} {ops : Array Oper} {rest : List Oper} {op : Oper} {a : Act} {w : World} {Q : Exit → Act → World → Prop} (hgd : op.guard = none) (ty : TypeId) (x y : Operand) (ho : op.op = .store ty x y)
    (g : Nat) (hx : a.eval x = .pointer (some ⟨g, 0, none⟩)) (cs : List Value) (hy : a.eval y = .agg cs.toArray) (T : TypeId) (old : List Value) (hA : Blk w g T old) (hl : old.length = cs.length)
    (hi : (P.info? ty).map (·.size) = some cs.length) (h1 : ∀ u ∈ cs, u.oneCell' = true)
    (h : ∀ w', Blk w' g T cs → w.grownBy w' (some g) → wpList P ops Q rest (a.put op.dst undef) w') : wpList P ops Q (op :: rest) a w := by
  obtain ⟨h2, h3⟩ := arr_setCells (f := fun v : Value => v) cs [] old w hl (by simpa using hA.arr)
  rw [List.map_id'] at h2 h3
  refine wpList_store_mid hgd ty x y ho g 0 cs.toArray hx hy ?_ ?_ ?_ ?_
  · exact hA.arr.there (by simp [hl])
  · rw [hi]; simp
  · exact all_oneCell_toArray h1
  · simp only
    exact h _ (blk_arr h2) h3
/-- two results: a struct in its cell, and a slot -/
theorem results_blk_tmp {P : Program} {fn : Func} {p u : Tmp} {ty : TypeId} (h : fn.results = #[.cell p ty, .tmp u]) (tmps : Array Value) (w : World) (g : Nat) (T : TypeId) (cs : List Value) (d : TypeDesc) (v : Value)
    (hp : tmps.getD p undef = .pointer (some ⟨g, 0, none⟩)) (hv : tmps.getD u undef = v) (hA : Blk w g T cs) (hu : P.underlying ty = some d) (hd : d.isRow = true) (hi : (P.info? ty).map (·.size) = some cs.length) :
    (results fn tmps).run P w = .ok (.tuple #[.agg cs.toArray, v]) w := by
  have := results_arr_tmp (P := P) (f := fun v : Value => v) h tmps w g T cs d v hp hv hA.arr hu hd hi
  rwa [List.map_id'] at this

set_option maxRecDepth 100000 in
set_option maxHeartbeats 1000000 in
theorem equal_any {w : World} {B1 B2 : Nat} {A1 A2 : Option Addr} {n1 n2 c1 c2 : Nat} {xs ys : List (BitVec 8)} (h1 : Rd b8 w B1 A1 xs) (h2 : Rd b8 w B2 A2 ys) (hn1 : xs.length = n1) (hn2 : ys.length = n2) (hB1 : B1 ≤ w.heap.size) (hB2 : B2 ≤ w.heap.size) (hx : n1 ≤ 1000000000) :
    Calls Try.prog 100 #[.slice A1 n1 c1, .slice A2 n2 c2] w fun e w' => e = .returned (.bool (xs == ys)) ∧ Below w.heap.size w w' := by
  have H1 := Lib.hid h1
  have H2 := Lib.hid h2
  have N1 := Lib.hid hn1
  have N2 := Lib.hid hn2
  by_cases hl : n1 = n2
  · subst hl
    clear h1 h2 hn1 hn2
    obtain ⟨r, hr⟩ : ∃ r, r = (xs == ys) := ⟨_, rfl⟩
    rw [← hr]
    have Hr := Lib.hid hr
    clear hr
    go_enter Try.func100, Try.ntmps100
    go_wp2_with fail
    go_loopw [5, 13] (fun cv iv wr => ∃ k : Nat, k ≤ n1 ∧ iv = .int .i64 (k : Int) ∧ xs.take k = ys.take k ∧ Below w.heap.size w wr) (fun _ iv _ => n1 - (intOf iv).toNat)
    case atStart => exact ⟨0, by omega, rfl, rfl, Below.refl _ _⟩
    case round =>
      obtain ⟨k, hk, rfl, heq, hb⟩ := hrel
      by_cases hlt : k < n1
      · have hlt' : (k : Int) < (n1 : Int) := by omega
        obtain ⟨b1, o1, e1, hb1, hc1⟩ := (H1.out.below (hb.mono hB1)).at_ (k := k) (by rw [N1.out]; exact hlt)
        obtain ⟨b2, o2, e2, hb2, hc2⟩ := (H2.out.below (hb.mono hB2)).at_ (k := k) (by rw [N2.out]; exact hlt)
        subst e1
        subst e2
        obtain ⟨x, hx⟩ : ∃ x, x = xs[k]'(by rw [N1.out]; exact hlt) := ⟨_, rfl⟩
        obtain ⟨y, hy⟩ : ∃ y, y = ys[k]'(by rw [N2.out]; exact hlt) := ⟨_, rfl⟩
        rw [← hx] at hc1
        rw [← hy] at hc2
        have d1 : wr.cell? ⟨b1, o1 + k, none⟩ = some (.int .u8 (bv x)) := hc1
        have d2 : wr.cell? ⟨b2, o2 + k, none⟩ = some (.int .u8 (bv y)) := hc2
        have HX := Lib.hid hx
        have HY := Lib.hid hy
        have HEq := Lib.hid heq
        have HB := Lib.hid hb
        clear hc1 hc2 hx hy heq hb
        by_cases hxy : x = y
        · have hn : (bv x != bv y) = false := by rw [hxy]; simp
          have Hxy := Lib.hid hxy
          clear hxy
          go_wp2_with fail
          go_quiet (fail)
          go_wp2_with fail
          go_roundw
          case rel =>
            refine ⟨k + 1, by omega, by go_num, ?_, below_drewN HB.out _⟩
            rw [List.take_add_one, List.take_add_one, HEq.out, List.getElem?_eq_getElem (by rw [N1.out]; exact hlt), List.getElem?_eq_getElem (by rw [N2.out]; exact hlt), ← HX.out, ← HY.out, Hxy.out]
          case measure => simp [intOf]; omega
        · have hn : (bv x != bv y) = true := by rw [bne_iff_ne]; intro h; exact hxy (bv_inj h)
          have Hxy := Lib.hid hxy
          clear hxy
          go_wp2_with fail
          go_quiet (fail)
          go_wp2_with fail
          go_ret
          have e : r = false := by
            rw [Hr.out, beq_eq_false_iff_ne]
            intro h
            subst h
            exact Hxy.out (HX.out.trans HY.out.symm)
          subst e
          exact ⟨rfl, below_drewN HB.out _⟩
      · obtain rfl : k = n1 := by omega
        have e : r = true := by
          rw [Hr.out, beq_iff_eq]
          have h := heq
          rwa [List.take_of_length_le (by rw [N1.out]; exact Nat.le_refl _), List.take_of_length_le (by rw [N2.out]; exact Nat.le_refl _)] at h
        subst e
        go_wp2_with fail
        go_ret
        exact ⟨rfl, hb⟩
  · have e : (xs == ys) = false := by rw [beq_eq_false_iff_ne]; intro h; exact hl (by rw [← hn1, ← hn2, h])
    have hne : ((n1 : Int) != (n2 : Int)) = true := by rw [bne_iff_ne]; omega
    rw [e]
    clear e hl h1 h2 hn1 hn2
    go_enter Try.func100, Try.ntmps100
    go_wp2
    go_ret
    exact ⟨rfl, Below.refl _ _⟩
end Go.Proofs.Ytloglpamnalmeaa
