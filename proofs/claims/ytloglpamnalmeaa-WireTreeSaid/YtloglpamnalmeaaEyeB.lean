/- CONTRACTS: the eye of package wire: number, sum, row. -/
import Derived.Test.YtloglpamnalmeaaEye
namespace Go.Proofs.Ytloglpamnalmeaa
open Go.RowKit
set_option linter.unusedVariables false
set_option linter.unusedSimpArgs false

/-- bytes as a number, the highest first -/
def beVal (xs : List (BitVec 8)) : Nat := xs.foldl (fun a x => 256 * a + x.toNat) 0
theorem beVal_snoc (xs : List (BitVec 8)) (x : BitVec 8) : beVal (xs ++ [x]) = 256 * beVal xs + x.toNat := by unfold beVal; rw [List.foldl_append]; rfl
theorem beVal_lt : ∀ (k : Nat) (xs : List (BitVec 8)), xs.length = k → beVal xs < 256 ^ k
  | 0, xs, h => by rw [List.length_eq_zero_iff.1 h]; simp [beVal]
  | k + 1, xs, h => by
    obtain ⟨ys, y, rfl⟩ : ∃ ys y, xs = ys ++ [y] := ⟨xs.dropLast, xs.getLast (by intro e; rw [e] at h; simp at h), (List.dropLast_concat_getLast _).symm⟩
    have := beVal_lt k ys (by simpa using h)
    rw [beVal_snoc, Nat.pow_succ]
    have := y.isLt
    omega

theorem or_push (M : Nat) (x : BitVec 8) (h : M < 16777216) : bits .or .i64 ((M : Int) * 256) (bv x) = ((256 * M + x.toNat : Nat) : Int) := by
  show IntKind.i64.wrap (((BitVec.ofInt 64 ((M : Int) * 256) ||| BitVec.ofInt 64 (bv x)).toNat : Nat) : Int) = _
  have e1 : (BitVec.ofInt 64 ((M : Int) * 256)).toNat = M * 256 := by rw [BitVec.toNat_ofInt]; omega
  have e2 : (BitVec.ofInt 64 (bv x)).toNat = x.toNat := by have := x.isLt; rw [BitVec.toNat_ofInt]; unfold bv; omega
  have e3 : M * 256 ||| x.toNat = M * 256 + x.toNat := by
    have := Nat.shiftLeft_add_eq_or_of_lt (i := 8) (b := x.toNat) x.isLt M
    rw [Nat.shiftLeft_eq] at this
    exact this.symm
  rw [BitVec.toNat_or, e1, e2, e3]
  have := x.isLt
  rw [IntWalk.i64_in _ (by omega)]
  omega
set_option maxRecDepth 100000 in
set_option maxHeartbeats 1000000 in
theorem numE_any {w : World} {B g : Nat} {ys : List (BitVec 8)} {bad : Bool} (hE : Eye w B g ys bad) (s : Nat) (si : Int) (hsi : si = (s : Int)) (hs : s ≤ 4) (hy : ys.length ≤ 100000000) :
    Calls Try.prog 60 #[.pointer (some ⟨g, 0, none⟩), .int .i64 si] w fun e w' => e = .returned (.int .i64 (beVal (tkO s ys) : Int)) ∧ Eye w' B g (tkR s ys) (tkB s ys bad) ∧ w.grownBy w' (some g) := by
  subst hsi
  obtain ⟨out, hout⟩ : ∃ out, out = tkO s ys := ⟨_, rfl⟩
  have hol : out.length = s := by rw [hout]; exact tkO_len _ _
  have ht := take_any hE s hy (by omega)
  rw [← hout] at ht ⊢
  have HT := Lib.hid ht
  have HOl := Lib.hid hol
  clear ht hout hol
  have hsz := hE.size
  clear hE
  go_enter Try.func60, Try.ntmps60
  go_wp2_with fail
  refine HT.out.mono ?_
  rintro e w1 ⟨v1, rfl, ho1, he1, hb1⟩
  have HE1 := Lib.hid he1
  have HB1 := Lib.hid hb1
  obtain ⟨A1, c1, rfl, hr1, -, -, -⟩ := ho1.shape' HOl.out
  have HR1 := Lib.hid hr1
  clear ho1 he1 hb1 hr1
  go_wp2_with fail
  go_loopw [5, 7, 12] (fun nv cv iv wr => ∃ k : Nat, k ≤ s ∧ iv = .int .i64 (k : Int) ∧ nv = .int .i64 (beVal (out.take k) : Int) ∧ wr = w1) (fun _ _ iv _ => s - (intOf iv).toNat)
  case atStart => exact ⟨0, by omega, rfl, rfl, rfl⟩
  case round =>
    obtain ⟨k, hk, rfl, rfl, rfl⟩ := hrel
    by_cases hlt : k < s
    · have hlt' : (k : Int) < (s : Int) := by omega
      obtain ⟨b, off, rfl, hb, hc⟩ := HR1.out.at_ (k := k) (by rw [HOl.out]; exact hlt)
      obtain ⟨x, hx⟩ : ∃ x, x = out[k]'(by rw [HOl.out]; exact hlt) := ⟨_, rfl⟩
      rw [← hx] at hc
      have hc' : wr.cell? ⟨b, off + k, none⟩ = some (.int .u8 (bv x)) := hc
      have hnext : beVal (out.take (k + 1)) = 256 * beVal (out.take k) + x.toNat := by
        rw [hx, ← beVal_snoc]; congr 1; simp
      have HNx := Lib.hid hnext
      have hml : beVal (out.take k) < 256 ^ k := beVal_lt k _ (by rw [List.length_take, HOl.out]; omega)
      have hml2 : beVal (out.take k) < 16777216 := Nat.lt_of_lt_of_le hml (Nat.le_trans (Nat.pow_le_pow_right (by omega) (show k ≤ 3 by omega)) (by decide))
      obtain ⟨M, hM⟩ : ∃ M, M = beVal (out.take k) := ⟨_, rfl⟩
      rw [← hM] at hml2 ⊢
      have HM := Lib.hid hM
      clear hx hc hnext hml hM
      go_wp2_with fail
      refine ⟨⟨k + 1, by omega, rfl, ?_, trivial⟩, by simp [intOf]; omega⟩
      rw [or_push M x hml2, HNx.out, ← HM.out]
    · obtain rfl : k = s := by omega
      have e : out.take k = out := List.take_of_length_le (by rw [HOl.out]; exact Nat.le_refl _)
      rw [e]
      clear e
      go_wp2_with fail
      go_ret
      exact ⟨rfl, HE1.out, HB1.out⟩

set_option maxRecDepth 100000 in
theorem rowE_any {w : World} {B g : Nat} {ys : List (BitVec 8)} {bad : Bool} (hE : Eye w B g ys bad) (hy : ys.length ≤ 100000000) :
    Calls Try.prog 61 #[.pointer (some ⟨g, 0, none⟩)] w fun e w' => ∃ v, e = .returned v ∧ Own b8 w' w.heap.size 5 v (tkO (beVal (tkO 2 ys)) (tkR 2 ys)) ∧ Eye w' B g (tkR (beVal (tkO 2 ys)) (tkR 2 ys)) (tkB (beVal (tkO 2 ys)) (tkR 2 ys) (tkB 2 ys bad)) ∧ w.grownBy w' (some g) := by
  have HN := Lib.hid (numE_any hE 2 2 rfl (by omega) hy)
  have hN := beVal_lt 2 (tkO 2 ys) (tkO_len _ _)
  have hR := tkR_le 2 ys
  clear hE
  generalize beVal (tkO 2 ys) = N at HN hN ⊢
  generalize tkR 2 ys = zs at HN hR ⊢
  generalize tkB 2 ys bad = bad' at HN ⊢
  go_enter Try.func61, Try.ntmps61
  go_wp2_with fail
  refine HN.out.mono ?_
  rintro e w1 ⟨rfl, he1, hb1⟩
  have HE1 := Lib.hid he1
  have HB1 := Lib.hid hb1
  clear he1 hb1
  go_wp2_with fail
  refine (take_any HE1.out N (by omega) (by simp at hN; omega)).mono ?_
  rintro e w2 ⟨v2, rfl, ho2, he2, hb2⟩
  have HO2 := Lib.hid ho2
  have HE2 := Lib.hid he2
  have HB2 := Lib.hid hb2
  clear ho2 he2 hb2
  go_wp2_with fail
  go_ret
  exact ⟨_, rfl, HO2.out.less HB1.out.size, HE2.out, grownBy_trans HB1.out HB2.out (fun _ e => .inl e)⟩

theorem rd_range {w : World} {B b off : Nat} {xs : List (BitVec 8)} (h : Rd b8 w B (some ⟨b, off, none⟩) xs) : w.rangeAt b off (xs.map b8) := fun j v hv => by
  rw [List.getElem?_map, Option.map_eq_some_iff] at hv
  obtain ⟨u, hu, rfl⟩ := hv
  obtain ⟨b', off', e, -, hc⟩ := h (by have := (List.getElem?_eq_some_iff.1 hu).1; omega)
  cases e
  exact hc j u hu
theorem eye_grown {w w' : World} {B g k : Nat} {ys : List (BitVec 8)} {bad : Bool} (h : Eye w B g ys bad) (hg : w.grownBy w' (some k)) (hk : k ≠ g) (hgk : g < k) : Eye w' B g ys bad := by
  have hz := h.size
  have hle := h.le
  obtain ⟨⟨A, c, h1, h2, h3⟩, h4⟩ := h
  exact ⟨⟨A, c, h1.grown hg (by intro e; exact hk (Option.some.inj e).symm), h2.below (below_grown hg (by omega) hz), h3⟩, h4⟩
theorem infoSumE : (Try.prog.info? 23).map (·.size) = some 32 := by kernel_rfl
set_option maxRecDepth 100000 in
set_option maxHeartbeats 1000000 in
theorem sumE_any {w : World} {B g : Nat} {ys : List (BitVec 8)} {bad : Bool} (hE : Eye w B g ys bad) (hy : ys.length ≤ 100000000) :
    Calls Try.prog 59 #[.pointer (some ⟨g, 0, none⟩)] w fun e w' => e = .returned (arrV b8 (tkO 32 ys)) ∧ Eye w' B g (tkR 32 ys) (tkB 32 ys bad) ∧ w.grownBy w' (some g) := by
  obtain ⟨out, hout⟩ : ∃ out, out = tkO 32 ys := ⟨_, rfl⟩
  have hol : out.length = 32 := by rw [hout]; exact tkO_len _ _
  have hsz := hE.size
  have hgl := hE.lt
  have hle := hE.le
  have HW := Lib.hid ((Below.refl w.heap.size w).alloc (Nat.le_refl _) (.cells ((List.replicate 32 0#8).map b8).toArray 23))
  have HA := Lib.hid (Arr.new b8 w 23 (List.replicate 32 0#8))
  have ht := take_any (hE.below ((Below.refl w.heap.size w).alloc (Nat.le_refl _) (.cells ((List.replicate 32 0#8).map b8).toArray 23)) (Nat.le_refl _)) 32 hy (by omega)
  rw [← hout] at ht ⊢
  have HT := Lib.hid ht
  have HOl := Lib.hid hol
  clear ht hout hol hE
  rw [arrV_mk]
  go_enter Try.func59, Try.ntmps59
  go_wp2_with fail
  refine HT.out.mono ?_
  rintro e w1 ⟨v1, rfl, ho1, he1, hb1⟩
  obtain ⟨A1, c1, rfl, hr1, -, -, -⟩ := ho1.shape' HOl.out
  obtain ⟨b, cap, e1, hbB, hblt, -⟩ := ho1.form' HOl.out (by omega)
  cases e1
  have HR1 := Lib.hid (rd_range hr1)
  have HE1 := Lib.hid he1
  have HG1 := Lib.hid hb1
  have hz1 : w.heap.size + 1 ≤ w1.heap.size := by have := hb1.size; simpa using this
  have HA1 := Lib.hid (HA.out.grown hb1 (by intro e; have := Option.some.inj e; omega))
  have harr : ∀ w, (Instr.arrayAt 23 (.slice (some ⟨b, 0, none⟩) 32 c1)).run Try.prog w = .ok (.pointer (some ⟨b, 0, none⟩)) w := fun w => by kernel_rfl
  clear ho1 he1 hb1 hr1
  go_wp2_with (first
    | (refine wpList_load_mid rfl 23 (.tmp 5) rfl b 0 rfl (out.map b8) _ HR1.out Try.underlying23 rfl (by rw [List.length_map, HOl.out]; exact infoSumE) ?_)
    | (refine wpList_store_arr rfl 23 _ _ rfl w.heap.size rfl out rfl _ _ HA1.out (by rw [HOl.out]; rfl) (by rw [HOl.out]; exact infoSumE) b8_one' ?_; intro w3 hp3 hg3; have HP3 := Lib.hid hp3; have HG3 := Lib.hid hg3; clear hp3 hg3))
  have hne : w.heap.size ≠ g := by omega
  refine bodyPost_ret (v := .agg (out.map b8).toArray) (results_arr (g := w.heap.size) rfl _ _ _ _ _ rfl HP3.out Try.underlying23 rfl (by rw [HOl.out]; exact infoSumE)) rfl ?_
  have hg : w.grownBy w3 (some g) := grownBy_trans (grownBy_trans (World.grownBy_alloc w _ (some g)) HG1.out (fun _ e => .inl e)) HG3.out (fun k e => by cases e; exact .inr (Nat.le_refl _))
  refine ⟨rfl, ?_, hg⟩
  exact eye_grown HE1.out HG3.out hne hgl
end Go.Proofs.Ytloglpamnalmeaa
