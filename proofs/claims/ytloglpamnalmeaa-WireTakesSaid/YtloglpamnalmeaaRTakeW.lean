/- CONTRACT: burrowref09.TakeWelcome: only whether the bytes are good. -/
import Derived.Test.YtloglpamnalmeaaRinTree
import Derived.Test.YtloglpamnalmeaaWels
import Derived.Test.YtloglpamnalmeaaRefWelcome
namespace Go.Proofs.Ytloglpamnalmeaa
open Go.RowKit
set_option linter.unusedVariables false
set_option linter.unusedSimpArgs false

/-- a reader is made behind a result's cell -/
theorem rin_new2 {w : World} {B' : Nat} {A : Option Addr} {n c : Nat} {bs : List (BitVec 8)} (zs : List Value) (T : TypeId) (hr : Rd b8 w B' A bs) (hB' : B' ≤ w.heap.size) (hn : bs.length = n) (hnc : n ≤ c) (W1 : World) (h1 : (w.alloc (.cells zs.toArray T)).alloc (.cells #[.slice A n c, .int .i64 0] 155) = W1) :
    Blk W1 w.heap.size T zs ∧ Rin W1 (w.heap.size + 1) (w.heap.size + 1) (bs, false) 0 ∧ Below w.heap.size w W1 ∧ W1.heap.size = w.heap.size + 2 := by
  have h0 := rin_new (c := c) (hr.alloc hB' (.cells zs.toArray T)) (show B' ≤ (w.alloc (.cells zs.toArray T)).heap.size by simp; omega) hn hnc W1 h1
  rw [World.size_alloc] at h0
  refine ⟨?_, h0.1, ?_, by have := h0.2.2; omega⟩
  · subst h1; exact (Blk.new w T zs).alloc _
  · exact ((Below.refl w.heap.size w).alloc (Nat.le_refl _) _).trans (h0.2.1.mono (by omega))
set_option maxRecDepth 100000 in
set_option maxHeartbeats 4000000 in
theorem rtakeWelcome_any {w : World} {B' : Nat} {A : Option Addr} {n c : Nat} {bs : List (BitVec 8)} (hr : Rd b8 w B' A bs) (hB' : B' ≤ w.heap.size) (hn : bs.length = n) (hnc : n ≤ c) (hy : n ≤ 1000000) :
    Calls Try.prog 45 #[.slice A n c] w fun e w' => Below w.heap.size w w' ∧ ∃ cs : List Value, e = .returned (.tuple #[.agg cs.toArray, .bool (goodW bs)]) ∧ cs.length = 3 ∧ ∀ u ∈ cs, u.oneCell' = true := by
  have HR := Lib.hid hr
  have HN := Lib.hid hn
  obtain ⟨s0, hs0⟩ : ∃ s : St, s = (bs, false) := ⟨_, rfl⟩
  obtain ⟨N, hN⟩ : ∃ N, N = (pNum 1 s0).1 := ⟨_, rfl⟩
  obtain ⟨s1, hs1⟩ : ∃ s, s = (pNum 1 s0).2 := ⟨_, rfl⟩
  obtain ⟨m1, hm1⟩ : ∃ m, m = (pNum 2 s1).1 := ⟨_, rfl⟩
  obtain ⟨t1, ht1⟩ : ∃ s, s = (pNum 2 s1).2 := ⟨_, rfl⟩
  obtain ⟨S, hS⟩ : ∃ S, S = (pTk m1 t1).1 := ⟨_, rfl⟩
  obtain ⟨s2, hs2⟩ : ∃ s, s = (pTk m1 t1).2 := ⟨_, rfl⟩
  obtain ⟨m2, hm2⟩ : ∃ m, m = (pNum 2 s2).1 := ⟨_, rfl⟩
  obtain ⟨t2, ht2⟩ : ∃ s, s = (pNum 2 s2).2 := ⟨_, rfl⟩
  obtain ⟨T, hT⟩ : ∃ T, T = (pTk m2 t2).1 := ⟨_, rfl⟩
  obtain ⟨⟨R, D⟩, hs3⟩ : ∃ s, s = (pTk m2 t2).2 := ⟨_, rfl⟩
  have hpp : parseW bs = ⟨N, S, T, R, D⟩ := by
    have hR : R = (pTk m2 t2).2.1 := by rw [← hs3]
    have hD : D = (pTk m2 t2).2.2 := by rw [← hs3]
    rw [hN, hS, hT, hR, hD, hm2, ht2, hs2, hm1, ht1, hs1, hs0]
    rfl
  have hgg : goodW bs = chkGood D R bs (welBad N S.length T.length) (welBytes N S T) := by unfold goodW; rw [hpp]
  obtain ⟨q, hq⟩ : ∃ q, q = goodW bs := ⟨_, rfl⟩
  rw [← hq]
  have HQ := Lib.hid (show chkGood D R bs (welBad N S.length T.length) (welBytes N S T) = q by rw [hq, hgg])
  have l0 : s0.1.length ≤ 1000000 := by rw [hs0]; show bs.length ≤ _; omega
  have l1 : s1.1.length ≤ 1000000 := by rw [hs1]; exact Nat.le_trans (pNum_le 1 s0) l0
  have l2 : t1.1.length ≤ 1000000 := by rw [ht1]; exact Nat.le_trans (pNum_le 2 s1) l1
  have l3 : s2.1.length ≤ 1000000 := by rw [hs2]; exact Nat.le_trans (pTk_le _ _) l2
  have l4 : t2.1.length ≤ 1000000 := by rw [ht2]; exact Nat.le_trans (pNum_le 2 s2) l3
  have k1 : m1 < 65536 := by rw [hm1]; exact beVal_lt 2 _ (tkO_len _ _)
  have k2 : m2 < 65536 := by rw [hm2]; exact beVal_lt 2 _ (tkO_len _ _)
  have hSl : S.length = m1 := by rw [hS]; exact pTk_len _ _
  have hTl : T.length = m2 := by rw [hT]; exact pTk_len _ _
  have C1 := Lib.hid (fun (W : World) (h : Rin W (w.heap.size + 1) (w.heap.size + 1) s0 0) => (show Calls Try.prog 94 #[.pointer (some ⟨w.heap.size + 1, 0, none⟩), .int .i64 1] W fun e w' => e = .returned (.int .i64 (N : Int)) ∧ Rin w' (w.heap.size + 1) (w.heap.size + 1) s1 1 ∧ W.grownBy w' (some (w.heap.size + 1)) by rw [hN, hs1]; exact rnum_any h 1 1 rfl (by omega) (by omega) (by omega)))
  have C2 := Lib.hid (fun (W : World) (h : Rin W (w.heap.size + 1) (w.heap.size + 1) s1 1) => (show Calls Try.prog 94 #[.pointer (some ⟨w.heap.size + 1, 0, none⟩), .int .i64 2] W fun e w' => e = .returned (.int .i64 (m1 : Int)) ∧ Rin w' (w.heap.size + 1) (w.heap.size + 1) t1 2 ∧ W.grownBy w' (some (w.heap.size + 1)) by rw [hm1, ht1]; exact rnum_any h 2 2 rfl (by omega) (by omega) (by omega)))
  have C3 := Lib.hid (fun (W : World) (h : Rin W (w.heap.size + 1) (w.heap.size + 1) t1 2) => (show Calls Try.prog 97 #[.pointer (some ⟨w.heap.size + 1, 0, none⟩), .int .i64 (m1 : Int)] W fun e w' => ∃ v, e = .returned v ∧ Own b8 w' W.heap.size 5 v S ∧ Rin w' (w.heap.size + 1) (w.heap.size + 1) s2 3 ∧ W.grownBy w' (some (w.heap.size + 1)) by rw [hS, hs2]; exact rtake_any h m1 (by omega) (by omega) (by omega)))
  have C4 := Lib.hid (fun (W : World) (h : Rin W (w.heap.size + 1) (w.heap.size + 1) s2 3) => (show Calls Try.prog 94 #[.pointer (some ⟨w.heap.size + 1, 0, none⟩), .int .i64 2] W fun e w' => e = .returned (.int .i64 (m2 : Int)) ∧ Rin w' (w.heap.size + 1) (w.heap.size + 1) t2 4 ∧ W.grownBy w' (some (w.heap.size + 1)) by rw [hm2, ht2]; exact rnum_any h 2 2 rfl (by omega) (by omega) (by omega)))
  have C5 := Lib.hid (fun (W : World) (h : Rin W (w.heap.size + 1) (w.heap.size + 1) t2 4) => (show Calls Try.prog 97 #[.pointer (some ⟨w.heap.size + 1, 0, none⟩), .int .i64 (m2 : Int)] W fun e w' => ∃ v, e = .returned v ∧ Own b8 w' W.heap.size 5 v T ∧ Rin w' (w.heap.size + 1) (w.heap.size + 1) (R, D) 5 ∧ W.grownBy w' (some (w.heap.size + 1)) by rw [hT, hs3]; exact rtake_any h m2 (by omega) (by omega) (by omega)))
  have HF := Lib.hid (rin_new2 (c := c) zerosWelcome 41 hr hB' hn hnc)
  have HS0 := Lib.hid hs0
  have HSl := Lib.hid hSl
  have HTl := Lib.hid hTl
  clear hr hn hs0 hN hs1 hm1 ht1 hS hs2 hm2 ht2 hT hs3 hpp hgg hq l0 l1 l2 l3 l4 hSl hTl
  go_enter Try.func45, Try.ntmps45
  go_wp2_with fail
  generalize hW1 : World.alloc (World.alloc w _) _ = W1
  obtain ⟨hp1, he1, hb1, hz1⟩ := HF.out W1 hW1
  rw [← HS0.out] at he1
  have hz1' : w.heap.size + 2 ≤ W1.heap.size := by omega
  clear hW1 HF hz1
  have HP1 := Lib.hid hp1
  have HE1 := Lib.hid he1
  have HB1 := Lib.hid hb1
  clear hp1 he1 hb1
  refine (C1.out _ HE1.out).mono ?_
  rintro e w2 ⟨rfl, he2, hg2⟩
  have HE2 := Lib.hid he2
  have HP2 := Lib.hid (HP1.out.grown hg2 (by intro e; have := Option.some.inj e; omega))
  have HB2 := Lib.hid (HB1.out.trans (below_grown hg2 (by omega) (by omega)) : Below w.heap.size w w2)
  have hz2' := Nat.le_trans hz1' hg2.size
  clear he2 HE1 HP1 HB1
  obtain ⟨gx, hgx⟩ : ∃ gx, gx = w2.heap.size := ⟨_, rfl⟩
  have HF3 := Lib.hid (show ∀ W3, w2.alloc (.cells #[.int .i64 (N : Int), .slice none 0 0, .slice none 0 0] 41) = W3 → Blk W3 gx 41 (welC N none 0 0 none 0 0) ∧ Below w2.heap.size w2 W3 ∧ W3.heap.size = gx + 1 by
    rintro W3 rfl
    rw [hgx]
    exact ⟨Blk.new w2 _ (welC N none 0 0 none 0 0), (Below.refl _ _).alloc (Nat.le_refl _) _, by simp⟩)
  go_wp2_with fail
  generalize hW3 : World.alloc w2 _ = w3
  obtain ⟨hx3, hb3, hz3⟩ := HF3.out w3 hW3
  rw [← hgx]
  have hgx2 : w.heap.size + 2 ≤ gx := by omega
  have HX3 := Lib.hid hx3
  have HE3 := Lib.hid (HE2.out.below hb3 (by omega))
  have HP3 := Lib.hid (HP2.out.below hb3 (by omega))
  have HB3 := Lib.hid (HB2.out.trans (hb3.mono (by omega)))
  have hz3' : w.heap.size + 2 ≤ w3.heap.size := by omega
  clear hW3 HF3 hx3 hb3 HE2 HP2 HB2 hz3 hgx
  have hzx3 : gx + 1 ≤ w3.heap.size := by have := HX3.out.lt; omega
  refine (C2.out _ HE3.out).mono ?_
  rintro e w4 ⟨rfl, he4, hg4⟩
  have HX4 := Lib.hid (HX3.out.grown hg4 (by intro e; have := Option.some.inj e; omega))
  have HE4 := Lib.hid he4
  have HP4 := Lib.hid (HP3.out.grown hg4 (by intro e; have := Option.some.inj e; omega))
  have HB4 := Lib.hid (HB3.out.trans (below_grown hg4 (by omega) (by omega)) : Below w.heap.size w w4)
  have hz4' := Nat.le_trans hz3' hg4.size
  clear he4 HE3 HP3 HB3
  clear hg4
  go_wp2_with fail
  refine (C3.out _ HE4.out).mono ?_
  rintro e w5 ⟨v5, rfl, ho5, he5, hg5⟩
  obtain ⟨A5, c5, rfl, -, -, -, -⟩ := ho5.shape' HSl.out
  have HX5 := Lib.hid (HX4.out.grown hg5 (by intro e; have := Option.some.inj e; omega))
  have HE5 := Lib.hid he5
  have HP5 := Lib.hid (HP4.out.grown hg5 (by intro e; have := Option.some.inj e; omega))
  have HB5 := Lib.hid (HB4.out.trans (below_grown hg5 (by omega) (by omega)) : Below w.heap.size w w5)
  have hz5' := Nat.le_trans hz4' hg5.size
  clear he5 HE4 HP4 HB4
  have hx6 := (HX5.out.set_ 1 (.slice A5 m1 c5)).cast (show _ = welC N A5 m1 c5 none 0 0 from rfl)
  have hg6 := grownBy_set w5 gx 1 (.slice A5 m1 c5)
  have ho6 := ho5.kept hg6 (.inr (HX5.out.not_row (by decide) ho5).symm)
  have c1 := HX5.out.cell 1 rfl
  have f1 := HX5.out.frozen 1
  clear hg5
  go_wp2_with fail
  generalize w5.setCell ⟨gx, 1, none⟩ (.slice A5 m1 c5) = w6 at hx6 hg6 ho6 ⊢
  have HX6 := Lib.hid hx6
  have HE6 := Lib.hid (HE5.out.grown hg6 (by omega) (by omega))
  have HP6 := Lib.hid (HP5.out.grown hg6 (by intro e; have := Option.some.inj e; omega))
  have HB6 := Lib.hid (HB5.out.trans (below_grown hg6 (by omega) (by omega)) : Below w.heap.size w w6)
  have hz6' := Nat.le_trans hz5' hg6.size
  clear hx6 HE5 HP5 HB5 HX5
  have HO6 := Lib.hid ho6
  clear c1 f1 ho5 ho6 hg6
  refine (C4.out _ HE6.out).mono ?_
  rintro e w7 ⟨rfl, he7, hg7⟩
  have HX7 := Lib.hid (HX6.out.grown hg7 (by intro e; have := Option.some.inj e; omega))
  have HE7 := Lib.hid he7
  have HP7 := Lib.hid (HP6.out.grown hg7 (by intro e; have := Option.some.inj e; omega))
  have HB7 := Lib.hid (HB6.out.trans (below_grown hg7 (by omega) (by omega)) : Below w.heap.size w w7)
  have hz7' := Nat.le_trans hz6' hg7.size
  clear he7 HE6 HP6 HB6
  have HO7 := Lib.hid (HO6.out.kept hg7 (.inr (fun e => by have := (HO6.out.lt _ e).1; omega)))
  clear hg7 HO6
  go_wp2_with fail
  refine (C5.out _ HE7.out).mono ?_
  rintro e w8 ⟨v8, rfl, ho8, he8, hg8⟩
  obtain ⟨A8, c8, rfl, -, -, -, -⟩ := ho8.shape' HTl.out
  have HX8 := Lib.hid (HX7.out.grown hg8 (by intro e; have := Option.some.inj e; omega))
  have HE8 := Lib.hid he8
  have HP8 := Lib.hid (HP7.out.grown hg8 (by intro e; have := Option.some.inj e; omega))
  have HB8 := Lib.hid (HB7.out.trans (below_grown hg8 (by omega) (by omega)) : Below w.heap.size w w8)
  have hz8' := Nat.le_trans hz7' hg8.size
  clear he8 HE7 HP7 HB7
  have HO8 := Lib.hid (HO7.out.kept hg8 (.inr (fun e => by have := (HO7.out.lt _ e).1; omega)))
  have hx9 := (HX8.out.set_ 2 (.slice A8 m2 c8)).cast (show _ = welC N A5 m1 c5 A8 m2 c8 from rfl)
  have hg9 := grownBy_set w8 gx 2 (.slice A8 m2 c8)
  have ho9 := ho8.kept hg9 (.inr (HX8.out.not_row (by decide) ho8).symm)
  have HO9 := Lib.hid (HO8.out.kept hg9 (.inr (HX8.out.not_row (by decide) HO8.out).symm))
  have k0 := hx9.cell 0 rfl
  have k1' := hx9.cell 1 rfl
  have k2' := hx9.cell 2 rfl
  have c2 := HX8.out.cell 2 rfl
  have f2 := HX8.out.frozen 2
  clear hg8 HO7
  go_wp2_with fail
  generalize w8.setCell ⟨gx, 2, none⟩ (.slice A8 m2 c8) = w9 at hx9 hg9 ho9 HO9 k0 k1' k2' ⊢
  have HX9 := Lib.hid hx9
  have HE9 := Lib.hid (HE8.out.grown hg9 (by omega) (by omega))
  have HP9 := Lib.hid (HP8.out.grown hg9 (by intro e; have := Option.some.inj e; omega))
  have HB9 := Lib.hid (HB8.out.trans (below_grown hg9 (by omega) (by omega)) : Below w.heap.size w w9)
  have hz9' := Nat.le_trans hz8' hg9.size
  clear hx9 HE8 HP8 HB8 HX8
  have HT9 := Lib.hid ho9
  clear ho8 ho9 hg9 c2 f2 HO8
  have hput := refPutWelcome_any N A5 m1 c5 A8 m2 c8 w9.heap.size S T w9 HO9.out.rd HT9.out.rd (Nat.le_refl _) HSl.out HTl.out (by omega) (by omega)
  rw [show (welC N A5 m1 c5 A8 m2 c8).toArray = #[.int .i64 N, .slice A5 m1 c5, .slice A8 m2 c8] from rfl] at hput
  obtain ⟨rb, hrb⟩ : ∃ rb, rb = welBad N m1 m2 := ⟨_, rfl⟩
  obtain ⟨X, hX⟩ : ∃ X, X = (if rb = true then [] else welBytes N S T) := ⟨_, rfl⟩
  rw [← hrb, ← hX] at hput
  have HPut := Lib.hid hput
  have HQ' := Lib.hid (show chkGood D R bs rb X = q by rw [hX, chk_if, ← HQ.out, hrb, HSl.out, HTl.out])
  clear hput hrb hX HQ
  go_wp2_with fail
  refine HPut.out.mono ?_
  rintro e wa ⟨va, rfl, hoa, hba⟩
  obtain ⟨la, hla⟩ : ∃ l, X.length = l := ⟨_, rfl⟩
  obtain ⟨Aa, ca, rfl, hra, -, -, -⟩ := hoa.shape' hla
  have hsa : w9.heap.size ≤ wa.heap.size := hba.size
  have HXa := Lib.hid (HX9.out.below hba HX9.out.lt)
  have HPa := Lib.hid (HP9.out.below hba (by omega))
  have HBa := Lib.hid (HB9.out.trans (hba.mono (by omega)))
  have hwh := rwhole_any (HE9.out.below hba (Nat.le_refl _)) c (HR.out.below (HBa.out.mono hB')) HN.out ca hra hla rb
  rw [show chkGood (R, D).2 (R, D).1 bs rb X = q from HQ'.out] at hwh
  have HW := Lib.hid hwh
  clear hwh hla hoa hra hba HPut HE9 HB9 HX9 HP9 HO9 HT9 k0 k1' k2'
  go_wp2_with fail
  refine HW.out.mono ?_
  rintro e wb ⟨rfl, rfl⟩
  cases q with
  | true =>
    have j0 := HXa.out.cell 0 rfl
    have j1 := HXa.out.cell 1 rfl
    have j2 := HXa.out.cell 2 rfl
    go_wp2_with (refine wpList_store_blk rfl 41 _ _ rfl w.heap.size rfl (welC N A5 m1 c5 A8 m2 c8) rfl _ _ HPa.out rfl infoWelcome (welC_one _ _ _ _ _ _ _) ?_; intro w9 hp9 hg9; have HPz := Lib.hid hp9; have HGz := Lib.hid hg9; clear hp9 hg9)
    refine bodyPost_ret (v := .tuple #[.agg (welC N A5 m1 c5 A8 m2 c8).toArray, .bool true]) (results_blk_tmp (g := w.heap.size) rfl _ _ _ _ _ _ rfl rfl HPz.out Try.underlying41 rfl infoWelcome) rfl ?_
    exact ⟨HBa.out.grown HGz.out (by omega) (fun k e => by cases e; omega), _, rfl, rfl, welC_one _ _ _ _ _ _ _⟩
  | false =>
    go_wp2_with (refine wpList_store_blk rfl 41 _ _ rfl w.heap.size rfl zerosWelcome rfl _ _ HPa.out rfl infoWelcome zerosWelcome_one ?_; intro w9 hp9 hg9; have HPz := Lib.hid hp9; have HGz := Lib.hid hg9; clear hp9 hg9)
    refine bodyPost_ret (v := .tuple #[.agg zerosWelcome.toArray, .bool false]) (results_blk_tmp (g := w.heap.size) rfl _ _ _ _ _ _ rfl rfl HPz.out Try.underlying41 rfl infoWelcome) rfl ?_
    exact ⟨HBa.out.grown HGz.out (by omega) (fun k e => by cases e; omega), _, rfl, rfl, zerosWelcome_one⟩
end Go.Proofs.Ytloglpamnalmeaa
