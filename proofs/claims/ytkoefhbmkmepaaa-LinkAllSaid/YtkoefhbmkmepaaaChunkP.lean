/- CONTRACTS: slices.Chunk and its iterator, where the last part may be short. -/
import Derived.Test.YtkoefhbmkmepaaaChunk
namespace Go.Proofs.Ytkoefhbmkmepaaa
open Go.RowKit
set_option linter.unusedVariables false
set_option linter.unusedSimpArgs false
attribute [local go_sem] Oper.semAt_some

/-- a part: its number; it is not empty -/
abbrev Cj (L q : Nat) := { i : Nat // q * i < L }
def encJ (b q L : Nat) (x : Cj L q) : Array Value := #[.slice (some ⟨b, q * x.1, none⟩) (min q (L - q * x.1)) (min q (L - q * x.1))]

set_option maxRecDepth 100000 in
set_option maxHeartbeats 1000000 in
theorem chunkP_in (m : Nat) (hm : 3 ≤ m) (b c q L M l bs bn n₀ : Nat) (hq : 1 ≤ q) (hq2 : q ≤ 1000) (hN : L ≤ 1000000000) (hc : L ≤ c) (hM : M = (L + q - 1) / q) (J Jx : List (Cj L q) → World → Prop) (W : World) (hJ : AbidesFrom W.heap.size J)
    (hY : ∀ pre y W1, J pre W1 → pre.length < M → YieldAt Fence.wide (m - 1) Try.prog l (encJ b q L y) W1 fun e W' =>
      (e = .returned (.bool true) ∧ J (pre ++ [y]) W' ∧ KpC n₀ bs bn W1 W') ∨ (e = .returned (.bool false) ∧ Jx (pre ++ [y]) W'))
    (hbs : Boxed W bs 47 (.slice (some ⟨b, 0, none⟩) L c)) (hbn : Boxed W bn 3 (.int .i64 (q : Int))) (h0 : J [] W) :
    CallsIn Fence.wide m Try.prog 69 #[.func (.yield l) #[] #[], .pointer (some ⟨bs, 0, none⟩), .pointer (some ⟨bn, 0, none⟩)] W fun e W' => (∃ v, e = .returned v) ∧
      ((∃ ys : List (Cj L q), ys.map Subtype.val = List.range M ∧ J ys W') ∨ (∃ pre : List (Cj L q), True ∧ Jx pre W')) := by
  refine callsIn_of_wp Try.func69 rfl trivial ?_ rfl
  simp only [Try.ntmps69, List.size_toArray, List.length_cons, List.length_nil, Nat.reduceAdd, Nat.reduceSub, Array.replicate_succ, Array.replicate_zero, List.push_toArray, List.append_toArray, List.nil_append, List.cons_append]
  have HJ := Lib.hid hJ
  have HY := Lib.hid hY
  have H0 := Lib.hid h0
  have HBs := Lib.hid hbs
  have HBn := Lib.hid hbn
  have hM1 : L ≤ q * M := by
    have h1 := Nat.div_add_mod (L + q - 1) q
    have h2 := Nat.mod_lt (L + q - 1) (show 0 < q by omega)
    rw [← hM] at h1
    omega
  have hM2 : q * M < L + q := by
    have h1 := Nat.div_add_mod (L + q - 1) q
    rw [← hM] at h1
    omega
  have HM1 := Lib.hid hM1
  have HM2 := Lib.hid hM2
  have hm1 : 1 ≤ m := by omega
  have hm2 : 1 ≤ m - 1 := by omega
  clear hJ hY h0 hbs hbn hM hM1 hM2
  gi_wp2_with fail
  gi_loopw [4] (fun v wr => ∃ (k p : Nat) (pre : List (Cj L q)), p = q * k ∧ v = .int .i64 (p : Int) ∧ k ≤ M ∧ pre.map Subtype.val = List.range k ∧ J pre wr ∧ Boxed wr bs 47 (.slice (some ⟨b, 0, none⟩) L c) ∧ Boxed wr bn 3 (.int .i64 (q : Int))) (fun v _ => (L - intOf v).toNat)
  case atStart => exact ⟨0, 0, [], by simp, rfl, by omega, rfl, H0.out, HBs.out, HBn.out⟩
  case round =>
    obtain ⟨k, p, pre, hp, rfl, hkM, hpre, hJs, hbs, hbn⟩ := hrel
    have cs := hbs.cell
    have cn := hbn.cell
    have HBs2 := Lib.hid hbs
    have HBn2 := Lib.hid hbn
    have HJs := Lib.hid hJs
    have Hpre := Lib.hid hpre
    have Hp := Lib.hid hp
    have hpb : p < L + q := by
      have := HM2.out
      have h1 : q * k ≤ q * M := Nat.mul_le_mul_left q hkM
      omega
    clear hbs hbn hJs hpre hp
    by_cases hlt : p < L
    · have hkM' : k < M := by
        rcases Nat.lt_or_ge k M with h | h
        · exact h
        · exfalso
          have h1 : q * M ≤ q * k := Nat.mul_le_mul_left q h
          have := HM1.out; have := Hp.out; omega
      have hpc : ¬ (c = p) := by omega
      by_cases hs : L - p < q
      · have hmin : min (q : Int) ((L - p : Nat) : Int) = ((L - p : Nat) : Int) := by omega
        have hsi : ((L - p : Nat) : Int) < (q : Int) := by omega
        have hsum : (p : Int) + ((L - p : Nat) : Int) = (L : Int) := by omega
        have HT := Lib.hid (show min q (L - p) = L - p by omega)
        gi_wp2_with fail
        refine wpIn_wide.2 ?_
        go_quiet (fail)
        have HJ2 := Lib.hid (HJ.out _ _ _ none HJs.out (show wr.grownBy (wr.drewN nq) none from ⟨rfl, rfl, rfl, Nat.le_refl _, fun _ _ _ => rfl⟩) (fun r e => by cases e))
        have HBs3 := Lib.hid (show Boxed (wr.drewN nq) bs 47 (.slice (some ⟨b, 0, none⟩) L c) from HBs2.out)
        have HBn3 := Lib.hid (show Boxed (wr.drewN nq) bn 3 (.int .i64 (q : Int)) from HBn2.out)
        clear HJs HBs2 HBn2 cs cn
        generalize wr.drewN nq = wv at HJ2 HBs3 HBn3 ⊢
        have cs := HBs3.out.cell
        have cn := HBn3.out.cell
        obtain ⟨fn, tmps, assign, body, hy, hR⟩ := HY.out pre ⟨k, by rw [← Hp.out]; exact hlt⟩ wv HJ2.out (by have := congrArg List.length Hpre.out; rw [List.length_map, List.length_range] at this; omega)
        dsimp only [encJ] at hy
        rw [← Hp.out, HT.out] at hy
        have HRn := Lib.hid hR
        clear hR
        gi_wp2_with fail
        refine HRn.out.mono ?_
        rintro e w3 (⟨rfl, hJ3, hk3, hks, hkn⟩ | ⟨rfl, hJx3⟩)
        · have hbs3 : Boxed w3 bs 47 (.slice (some ⟨b, 0, none⟩) L c) := hks.trans HBs3.out
          have hbn3 : Boxed w3 bn 3 (.int .i64 (q : Int)) := hkn.trans HBn3.out
          have cn3 := hbn3.cell
          have HB1 := Lib.hid hbs3
          have HB2 := Lib.hid hbn3
          have HJ3 := Lib.hid hJ3
          clear hbs3 hbn3 hks hkn hJ3 hk3
          gi_wp2_with fail
          go_roundw
          case rel =>
            refine ⟨k + 1, p + q, pre ++ [⟨k, by rw [← Hp.out]; exact hlt⟩], by rw [Hp.out, Nat.mul_succ], by go_num, hkM', ?_, HJ3.out, HB1.out, HB2.out⟩
            rw [List.map_append, Hpre.out, List.range_succ]; rfl
          case measure => simp [intOf]; omega
        · gi_wp2_with fail
          refine bodyPost_ret (results_none rfl _ _ _) rfl ?_
          exact ⟨⟨_, rfl⟩, .inr ⟨_, trivial, hJx3⟩⟩
      · have hle : p + q ≤ L := by omega
        have hmin : min (q : Int) ((L - p : Nat) : Int) = (q : Int) := by omega
        have HT := Lib.hid (show min q (L - p) = q by omega)
        clear hs
        gi_wp2_with fail
        refine wpIn_wide.2 ?_
        go_quiet (fail)
        have HJ2 := Lib.hid (HJ.out _ _ _ none HJs.out (show wr.grownBy (wr.drewN nq) none from ⟨rfl, rfl, rfl, Nat.le_refl _, fun _ _ _ => rfl⟩) (fun r e => by cases e))
        have HBs3 := Lib.hid (show Boxed (wr.drewN nq) bs 47 (.slice (some ⟨b, 0, none⟩) L c) from HBs2.out)
        have HBn3 := Lib.hid (show Boxed (wr.drewN nq) bn 3 (.int .i64 (q : Int)) from HBn2.out)
        clear HJs HBs2 HBn2 cs cn
        generalize wr.drewN nq = wv at HJ2 HBs3 HBn3 ⊢
        have cs := HBs3.out.cell
        have cn := HBn3.out.cell
        obtain ⟨fn, tmps, assign, body, hy, hR⟩ := HY.out pre ⟨k, by rw [← Hp.out]; exact hlt⟩ wv HJ2.out (by have := congrArg List.length Hpre.out; rw [List.length_map, List.length_range] at this; omega)
        dsimp only [encJ] at hy
        rw [← Hp.out, HT.out] at hy
        have HRn := Lib.hid hR
        clear hR
        gi_wp2_with fail
        refine HRn.out.mono ?_
        rintro e w3 (⟨rfl, hJ3, hk3, hks, hkn⟩ | ⟨rfl, hJx3⟩)
        · have hbs3 : Boxed w3 bs 47 (.slice (some ⟨b, 0, none⟩) L c) := hks.trans HBs3.out
          have hbn3 : Boxed w3 bn 3 (.int .i64 (q : Int)) := hkn.trans HBn3.out
          have cn3 := hbn3.cell
          have HB1 := Lib.hid hbs3
          have HB2 := Lib.hid hbn3
          have HJ3 := Lib.hid hJ3
          clear hbs3 hbn3 hks hkn hJ3 hk3
          gi_wp2_with fail
          go_roundw
          case rel =>
            refine ⟨k + 1, p + q, pre ++ [⟨k, by rw [← Hp.out]; exact hlt⟩], by rw [Hp.out, Nat.mul_succ], by go_num, hkM', ?_, HJ3.out, HB1.out, HB2.out⟩
            rw [List.map_append, Hpre.out, List.range_succ]; rfl
          case measure => simp [intOf]; omega
        · gi_wp2_with fail
          refine bodyPost_ret (results_none rfl _ _ _) rfl ?_
          exact ⟨⟨_, rfl⟩, .inr ⟨_, trivial, hJx3⟩⟩
    · obtain rfl : k = M := by
        rcases Nat.lt_or_ge k M with h | h
        · exfalso
          have h1 : q * (k + 1) ≤ q * M := Nat.mul_le_mul_left q h
          rw [Nat.mul_succ] at h1
          have := HM2.out; have := Hp.out; omega
        · omega
      have hge : ¬ ((p : Int) < (L : Int)) := by omega
      gi_wp2_with fail
      go_end0
      exact ⟨⟨_, rfl⟩, .inl ⟨pre, Hpre.out, HJs.out⟩⟩
theorem chunkP_stops (m : Nat) (hm : 3 ≤ m) (b c q L M bs bn n₀ : Nat) (hq : 1 ≤ q) (hq2 : q ≤ 1000) (hN : L ≤ 1000000000) (hc : L ≤ c) (hM : M = (L + q - 1) / q) (w : World)
    (hbs : Boxed w bs 47 (.slice (some ⟨b, 0, none⟩) L c)) (hbn : Boxed w bn 3 (.int .i64 (q : Int))) :
    SeqStopsK Fence.wide m Try.prog 69 #[.pointer (some ⟨bs, 0, none⟩), .pointer (some ⟨bn, 0, none⟩)] (fun x : Cj L q => encJ b q L x) (KpC n₀ bs bn) (fun ys => ys.map Subtype.val = List.range M) (fun _ => True) M w := fun l J Jx W hW hJ _ hY h0 =>
  chunkP_in m hm b c q L M l bs bn n₀ hq hq2 hN hc hM J Jx W hJ hY (boxed_bl hbs hW) (boxed_bl hbn hW) h0
end Go.Proofs.Ytkoefhbmkmepaaa
