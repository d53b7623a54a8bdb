/- CONTRACT: burrowlaw12.once. -/
import Derived.Test.YtkoefhbmkmepaaaLinkB
import Derived.Deep.Cut
namespace Go.Proofs.Ytkoefhbmkmepaaa
open Go.RowKit
set_option linter.unusedVariables false
set_option linter.unusedSimpArgs false

theorem infoSlL : (Try.prog.info? 47).map (fun i => (i.zero, i.size, i.bytes)) = some (some (.slice none 0 0), 1, 24) := by kernel_rfl
/-- a number's two bytes, the lowest first -/
def twoV (k : Nat) : List (BitVec 8) := [BitVec.ofNat 8 k, BitVec.ofNat 8 (k / 256)]
/-- messages that the call owns -/
def Sent (w : World) (base : Nat) (key : List (BitVec 8)) (vs : List Sl) : Prop := ∀ j A n c, vs[j]? = some (A, n, c) → Own b8 w base 5 (.slice A n c) (msgV key j (twoV j))
section
variable {w w' : World} {base : Nat} {key : List (BitVec 8)} {vs : List Sl}
theorem Sent.kept (h : Sent w base key vs) {g : Nat} (hg : w.grownBy w' (some g)) (hne : g < base) : Sent w' base key vs := fun j A n c hj =>
  (h j A n c hj).kept hg (.inr (fun e => by have := (h j A n c hj).lt g e; omega))
theorem Sent.alloc (h : Sent w base key vs) (o : Obj) : Sent (w.alloc o) base key vs := fun j A n c hj => (h j A n c hj).alloc o
theorem Sent.grew (h : Sent w base key vs) {v v' : Value} {B E : Nat} {xs : List Sl} (hg : Grew w w' v v') (ho : Own sl w B E v xs) (hE : E ≠ 5) : Sent w' base key vs := fun j A n c hj =>
  (h j A n c hj).kept' hg.by_ (fun g e => ho.unlike (h j A n c hj) hE g e)
theorem Sent.row (h : Sent w base key vs) {α : Type} {f : α → Value} {v : Value} {B E : Nat} {xs : List α} {g : Nat} (hg : w.grownBy w' (some g)) (ho : Own f w B E v xs) (hv : v.ownBlock = some g) (hE : E ≠ 5) : Sent w' base key vs := fun j A n c hj =>
  (h j A n c hj).kept hg (.inr (ho.unlike (h j A n c hj) hE g hv))
theorem Sent.snoc (h : Sent w base key vs) {k : Nat} (hk : vs.length = k) {A : Option Addr} {n c : Nat} (ho : Own b8 w base 5 (.slice A n c) (msgV key k (twoV k))) : Sent w base key (vs ++ [(A, n, c)]) := fun j A' n' c' hj => by
  rcases Nat.lt_or_ge j vs.length with hlt | hge
  · rw [List.getElem?_append_left hlt] at hj
    exact h j A' n' c' hj
  · rw [List.getElem?_append_right hge] at hj
    have h0 : j - vs.length = 0 := by
      rcases Nat.eq_zero_or_pos (j - vs.length) with h | h
      · exact h
      · rw [List.getElem?_eq_none (by simp; omega)] at hj; cases hj
    rw [h0] at hj
    cases hj
    have : j = k := by omega
    subst this
    exact ho
end
theorem own_zerosL {w : World} {B N : Nat} {v : Value} (h : w.ownsRow B 3 1 v N (madeCells (Value.int .i64 0).cells (N * 1)).toList) : Own i64v w B 3 v (List.replicate N 0) := by
  unfold Own
  rw [List.length_replicate]
  have e : (madeCells (Value.int .i64 0).cells (N * 1)).toList = List.replicate N (i64v 0) := by rw [Nat.mul_one]; exact toList_madeCells_one _ _
  rw [e] at h
  rw [List.map_replicate]
  exact h
/-- how often each of the numbers was taken -/
structure Times (M : Nat) (T L : List Int) : Prop where
  len : T.length = M
  cnt : ∀ j : Nat, (h : j < T.length) → T[j] = if (j : Int) ∈ L then 1 else 0
  rng : ∀ x ∈ L, 0 ≤ x ∧ x < (M : Int)
theorem Times.start (M : Nat) : Times M (List.replicate M 0) [] := ⟨by simp, fun j h => by simp, fun x h => by simp at h⟩
theorem Times.more {M : Nat} {T L : List Int} (x : Times M T L) (k : Nat) (hk : k < M) : Times M (T.set k 1) (L ++ [(k : Int)]) := by
  refine ⟨by rw [List.length_set, x.len], fun j h => ?_, fun y hy => ?_⟩
  · rw [List.getElem_set]
    by_cases e : k = j
    · subst e; simp
    · rw [if_neg e, x.cnt j (by simpa using h)]
      have : ¬ ((j : Int) = (k : Int)) := by omega
      simp [this]
  · rcases List.mem_append.1 hy with h | h
    · exact x.rng y h
    · rw [List.mem_singleton] at h; omega
theorem Inv.range {M : Nat} {T L : List Int} {t : Bool} {h : Int} {s : BitVec 64} (x : Inv L t h s) (y : Times M T L) : -1 ≤ hiL L ∧ (M = 0 ∨ hiL L < (M : Int)) := by
  cases t with
  | false => rw [(x.none_ rfl).1]; unfold hiL; simp; omega
  | true =>
    have h1 := x.some_ rfl
    have h2 := y.rng h h1.2.2.2.1
    omega
theorem b8_small (K : Nat) (h : K < 256) : b8 (BitVec.ofNat 8 K) = .int .u8 (K : Int) := by
  unfold b8 bv; rw [BitVec.toNat_ofNat, Nat.mod_eq_of_lt (by omega)]
theorem umod_lto (U : Int) (L : Nat) (hU : 0 ≤ U) (hL : 0 < L) : ∃ K : Nat, U.tmod (L : Int) = (K : Int) ∧ K < L := by
  rw [Int.tmod_eq_emod_of_nonneg hU]
  have h1 := Int.emod_nonneg U (show (L : Int) ≠ 0 by omega)
  have h2 := Int.emod_lt_of_pos U (show (0 : Int) < (L : Int) by omega)
  exact ⟨(U % (L : Int)).toNat, by omega, by omega⟩

set_option maxRecDepth 100000 in
set_option maxHeartbeats 2000000 in
theorem once_any (ka : List (BitVec 8)) (hka : ka.length = 32) (kb : List (BitVec 8)) (hkb : kb.length = 32) (z : Int) (A : Option Addr) (n c : Nat) (ys : List Int) (B : Nat) {W : World} (hr : Rd i64v W B A ys) (hB : B ≤ W.heap.size) (hn : ys.length = n) :
    Calls Try.prog 16 #[.agg (ka.map b8).toArray, .agg (kb.map b8).toArray, .int .i64 z, .slice A n c] W fun e w' => e = .returned (.bool true) ∧ Below W.heap.size W w' := by
  obtain ⟨i0, hi0, hz0, hz1, hz2⟩ := info_parts infoInt
  obtain ⟨j0, hj0, hy0, hy1, hy2⟩ := info_parts infoSlL
  have HKa := Lib.hid hka
  have HKb := Lib.hid hkb
  have HR := Lib.hid (hr.more hB)
  have HN := Lib.hid hn
  have HA := Lib.hid ((Arr.new b8 W 39 ka).alloc (.cells (kb.map b8).toArray 39))
  have HB := Lib.hid (show Arr b8 ((W.alloc (.cells (ka.map b8).toArray 39)).alloc (.cells (kb.map b8).toArray 39)) (W.heap.size + 1) 39 kb from Arr.at_size b8 _ kb (by simp))
  have HB0 := Lib.hid (show Below W.heap.size W ((W.alloc (.cells (ka.map b8).toArray 39)).alloc (.cells (kb.map b8).toArray 39)) by (repeat' (first | assumption | exact Below.refl _ _ | refine Below.drew ?_ | refine Below.alloc ?_ ?_ _ | omega | (simp; done) | (simp; omega))))
  have hzz : ((W.alloc (.cells (ka.map b8).toArray 39)).alloc (.cells (kb.map b8).toArray 39)).heap.size = W.heap.size + 2 := by simp
  clear hka hkb hr hB hn
  by_cases k1 : (n : Int) > 400
  ·
    go_enter Try.func16, Try.ntmps16
    go_wp2_with fail
    generalize hW0 : World.alloc (World.alloc W _) _ = W0 at HA HB HB0 hzz ⊢
    clear hW0
    refine (alive12_any _).mono ?_
    rintro e w1 ⟨rfl, hb1⟩
    have HY1 := Lib.hid (HB0.out.trans (hb1.mono (by omega)))
    clear hb1
    go_wp2_with fail
    go_ret
    exact ⟨rfl, HY1.out⟩
  obtain ⟨U, hU⟩ : ∃ U, U = IntKind.u64.wrap z := ⟨_, rfl⟩
  have hU0 : 0 ≤ U := by rw [hU, ofint_u64]; unfold bv; omega
  obtain ⟨q, hq, hql⟩ := umod_lto U 200 hU0 (by omega)
  obtain ⟨M, hM⟩ : ∃ M, M = 1 + q := ⟨_, rfl⟩
  have HMw := Lib.hid (show wrap64 (1 + wrap64 ((IntKind.u64.wrap z).tmod 200)) = (M : Int) by
    rw [← hU, show U.tmod 200 = (q : Int) from hq, IntWalk.wrap64_in (q : Int) (by omega), IntWalk.wrap64_in _ (by omega), hM]; omega)
  have hM1 : 1 ≤ M := by omega
  have hM2 : M ≤ 200 := by omega
  clear hq hU hU0 hM hql
  obtain ⟨Za, hZa⟩ : ∃ Z, Z = ka.map b8 := ⟨_, rfl⟩
  obtain ⟨Zb, hZb⟩ : ∃ Z, Z = kb.map b8 := ⟨_, rfl⟩
  have hZal : Za.length = 32 := by rw [hZa, List.length_map, HKa.out]
  have hZbl : Zb.length = 32 := by rw [hZb, List.length_map, HKb.out]
  have hu := Try.underlying39
  have hia : (Try.prog.info? 39).map (·.size) = some Za.length := by rw [hZal]; exact size32k
  have hib : (Try.prog.info? 39).map (·.size) = some Zb.length := by rw [hZbl]; exact size32k
  have HN1 := Lib.hid (show ∀ W' : World, Calls Try.prog 17 #[.agg Za.toArray, .agg Zb.toArray] W' fun e w' => ∃ g, e = .returned (.pointer (some ⟨g, 0, none⟩)) ∧ W'.heap.size ≤ g ∧ LinkAt w' g false 0 0#64 ka kb 0 ∧ Below W'.heap.size W' w' from fun W' => by rw [hZa, hZb]; exact lnew_any W' ka kb HKa.out HKb.out)
  have HN2 := Lib.hid (show ∀ W' : World, Calls Try.prog 17 #[.agg Zb.toArray, .agg Za.toArray] W' fun e w' => ∃ g, e = .returned (.pointer (some ⟨g, 0, none⟩)) ∧ W'.heap.size ≤ g ∧ LinkAt w' g false 0 0#64 kb ka 0 ∧ Below W'.heap.size W' w' from fun W' => by rw [hZa, hZb]; exact lnew_any W' kb ka HKb.out HKa.out)
  go_enter Try.func16, Try.ntmps16
  go_wp2_with fail
  generalize hW0 : World.alloc (World.alloc W _) _ = W0 at HA HB HB0 hzz ⊢
  clear hW0
  refine (alive12_any _).mono ?_
  rintro e w1 ⟨rfl, hb1⟩
  have hs1 := hb1.size
  have HA1 := Lib.hid (HA.out.below hb1 (by omega))
  have HB1 := Lib.hid (HB.out.below hb1 (by omega))
  have HY1 := Lib.hid (HB0.out.trans (hb1.mono (by omega)))
  clear hb1 HA HB HB0
  have HKeep := Lib.hid (show ∀ W', Below w1.heap.size w1 W' → W'.rangeAt W.heap.size 0 Za ∧ W'.rangeAt (W.heap.size + 1) 0 Zb from fun W' hb => by rw [hZa, hZb]; exact ⟨(HA1.out.below hb (by omega)).whole, (HB1.out.below hb (by omega)).whole⟩)
  have hk1 := HKeep.out _ (Below.refl _ w1).drew
  clear hZa hZb hZal hZbl
  go_wp2_with fail
  rw [HMw.out]
  --{R6
  refine wp_region_noPanic ?_
  refine wp_region_held_drew (S := fun w' => w'.rangeAt W.heap.size 0 Za ∧ w'.rangeAt (W.heap.size + 1) 0 Zb) (by kernel_rfl) hk1 (fun hS => ?_)
  refine wpAnyH_take (i := 0) (oi := { dst := some 32, op := _, type := _, pos := _, after := _, guard := _ }) (v := .agg Za.toArray) rfl (by kernel_rfl) (by kernel_rfl) (by kernel_rfl) (fun _ _ _ h => h) (yieldsIf_load_mid (by rfl) 39 (.tmp 4) rfl W.heap.size 0 rfl Za _ (fun _ h => h.1) hu rfl hia) hS ?_
  try simp only [Act.put, List.setIfInBounds_toArray, List.set_cons_zero, List.set_cons_succ]
  refine wpAnyH_take (i := 1) (oi := { dst := some 33, op := _, type := _, pos := _, after := _, guard := _ }) (v := .agg Zb.toArray) rfl (by kernel_rfl) (by kernel_rfl) (by kernel_rfl) (fun _ _ _ h => h) (yieldsIf_load_mid (by rfl) 39 (.tmp 5) rfl (W.heap.size + 1) 0 rfl Zb _ (fun _ h => h.2) hu rfl hib) hS ?_
  try simp only [Act.put, List.setIfInBounds_toArray, List.set_cons_zero, List.set_cons_succ]
  refine wpAnyH_take (i := 3) (oi := { dst := some 35, op := _, type := _, pos := _, after := _, guard := _ }) (v := .agg Zb.toArray) rfl (by kernel_rfl) (by kernel_rfl) (by kernel_rfl) (fun _ _ _ h => h) (yieldsIf_load_mid (by rfl) 39 (.tmp 5) rfl (W.heap.size + 1) 0 rfl Zb _ (fun _ h => h.2) hu rfl hib) hS ?_
  try simp only [Act.put, List.setIfInBounds_toArray, List.set_cons_zero, List.set_cons_succ]
  refine wpAnyH_take (i := 4) (oi := { dst := some 36, op := _, type := _, pos := _, after := _, guard := _ }) (v := .agg Za.toArray) rfl (by kernel_rfl) (by kernel_rfl) (by kernel_rfl) (fun _ _ _ h => h) (yieldsIf_load_mid (by rfl) 39 (.tmp 4) rfl W.heap.size 0 rfl Za _ (fun _ h => h.1) hu rfl hia) hS ?_
  try simp only [Act.put, List.setIfInBounds_toArray, List.set_cons_zero, List.set_cons_succ]
  refine wpAnyH_ready (rs := [2]) (by kernel_rfl) (by simp) (AllReadyH.cons (o := { dst := some 34, op := _, type := _, pos := _, after := _, guard := _ }) rfl (fun K' hK => ?_) AllReadyH.nil)
  go_simp
  go_at_call 17
  refine (HN1.out _).mono ?_
  rintro e w2 ⟨gx, rfl, hgx, hx2, hb2⟩
  have HX2 := Lib.hid hx2
  have HQ2 := Lib.hid (show Below w1.heap.size w1 w2 from (Below.refl _ w1).drew.trans hb2)
  have hs2 := HX2.out.lt
  have hgx1 : w1.heap.size ≤ gx := hgx
  clear hx2 hb2 hgx
  refine hK.out _ _ (HKeep.out _ (HQ2.out)) (fun hS => ?_)
  clear hK K'
  try simp only [Act.put, List.setIfInBounds_toArray, List.set_cons_zero, List.set_cons_succ]
  refine wpAnyH_ready (rs := [5]) (by kernel_rfl) (by simp) (AllReadyH.cons (o := { dst := some 37, op := _, type := _, pos := _, after := _, guard := _ }) rfl (fun K' hK => ?_) AllReadyH.nil)
  go_simp
  go_at_call 17
  refine (HN2.out _).mono ?_
  rintro e w3 ⟨gy, rfl, hgy, hy3, hb3⟩
  have HY3 := Lib.hid hy3
  have HX3 := Lib.hid (HX2.out.below hb3 hs2)
  have HQ3 := Lib.hid (HQ2.out.trans (hb3.mono HQ2.out.size))
  have hs3 := HY3.out.lt
  clear hy3 hb3
  refine hK.out _ _ (HKeep.out _ (HQ3.out)) (fun hS => ?_)
  clear hK K'
  try simp only [Act.put, List.setIfInBounds_toArray, List.set_cons_zero, List.set_cons_succ]
  refine wpAnyH_ready (rs := [6]) (by kernel_rfl) (by simp) (AllReadyH.cons (o := { dst := some 9, op := _, type := _, pos := _, after := _, guard := _ }) rfl (fun K' hK => ?_) AllReadyH.nil)
  go_simp
  refine hK.out _ _ (HKeep.out _ (HQ3.out)) (fun hS => ?_)
  clear hK K'
  try simp only [Act.put, List.setIfInBounds_toArray, List.set_cons_zero, List.set_cons_succ]
  refine wpAnyH_ready (rs := [7]) (by kernel_rfl) (by simp) (AllReadyH.cons (o := { dst := some 10, op := _, type := _, pos := _, after := _, guard := _ }) rfl (fun K' hK => ?_) AllReadyH.nil)
  go_simp
  refine hK.out _ _ (HKeep.out _ (HQ3.out)) (fun hS => ?_)
  clear hK K'
  try simp only [Act.put, List.setIfInBounds_toArray, List.set_cons_zero, List.set_cons_succ]
  refine wpAnyH_done (by kernel_rfl) ?_ _
  refine NoPanic.normal ?_
  --}R6
  have hgy1 : gx < gy := by omega
  have hQ3 := HY1.out.trans (HQ3.out.mono (by omega))
  have HP3 := Lib.hid hQ3
  clear hQ3 HX2 HQ2 HQ3 HA1 HB1 HKeep hk1
  have hgyW : W.heap.size ≤ gx := by omega
  obtain ⟨B0, hB0⟩ : ∃ B0, B0 = w3.heap.size := ⟨_, rfl⟩
  have hgyB : gy < B0 := by omega
  have hBW : W.heap.size ≤ B0 := by have := HP3.out.size; omega
  have HE4 := Lib.hid (Own.lit sl w3 B0 47 [] (by omega) (by simp [maxLen]))
  have HX4 := Lib.hid (HX3.out.below (w' := w3.alloc (.cells (([] : List Sl).map sl).toArray 47)) ((Below.refl w3.heap.size w3).alloc (Nat.le_refl _) _) (by omega))
  have HY4 := Lib.hid (HY3.out.below (w' := w3.alloc (.cells (([] : List Sl).map sl).toArray 47)) ((Below.refl w3.heap.size w3).alloc (Nat.le_refl _) _) (by omega))
  have HP4 := Lib.hid (show Below W.heap.size W (w3.alloc (.cells (([] : List Sl).map sl).toArray 47)) from HP3.out.alloc (by omega) _)
  have hB4 : B0 ≤ (w3.alloc (.cells (([] : List Sl).map sl).toArray 47)).heap.size := by simp; omega
  have HB0 := Lib.hid hB0
  clear HX3 HY3 HP3 hB0
  go_wp2_with fail
  go_loopw [11, 40] (fun v i wr => ∃ (k : Nat) (vs : List Sl), k ≤ M ∧ i = .int .i64 (k : Int) ∧ vs.length = k ∧ Own sl wr B0 47 v vs ∧ Sent wr B0 ka vs ∧ LinkAt wr gx false 0 0#64 ka kb (k : Int) ∧ LinkAt wr gy false 0 0#64 kb ka 0 ∧ Below W.heap.size W wr ∧ B0 ≤ wr.heap.size) (fun _ i _ => M - (intOf i).toNat)
  case atStart => exact ⟨0, [], by omega, rfl, rfl, HE4.out, fun j A n c h => by simp at h, HX4.out, HY4.out, HP4.out, hB4⟩
  case round =>
    clear HE4 HX4 HY4 HP4 hB4
    obtain ⟨k, vs, hk, rfl, hvs, ho, hse, hx, hy, hb, hBw⟩ := hrel
    obtain ⟨Av, cv, rfl, hrv, -, hcv, hcv'⟩ := ho.shape' hvs
    have HVs := Lib.hid hvs
    have HO := Lib.hid ho
    have HSe := Lib.hid hse
    have HX := Lib.hid hx
    have HY := Lib.hid hy
    have HW := Lib.hid hb
    have hly := hy.lt
    have HRv := Lib.hid hrv
    clear hvs ho hse hx hy hb hrv
    by_cases hlt : k < M
    · have e0 : IntKind.u8.wrap (k : Int) = bv (BitVec.ofNat 8 k) := wrap8 k
      have e1 : IntKind.u8.wrap ((k : Int) / 256) = bv (BitVec.ofNat 8 (k / 256)) := by rw [← wrap8]; congr 1
      have hzz5 : (wr.alloc (.cells ((twoV k).map b8).toArray 5)).heap.size = wr.heap.size + 1 := by simp
      have HX5 := Lib.hid (HX.out.below (w' := wr.alloc (.cells ((twoV k).map b8).toArray 5)) ((Below.refl wr.heap.size wr).alloc (Nat.le_refl _) _) (by omega))
      have HY5 := Lib.hid (HY.out.below (w' := wr.alloc (.cells ((twoV k).map b8).toArray 5)) ((Below.refl wr.heap.size wr).alloc (Nat.le_refl _) _) (by omega))
      have HP5 := Lib.hid (show Below W.heap.size W (wr.alloc (.cells ((twoV k).map b8).toArray 5)) from HW.out.alloc (by omega) _)
      have HO5 := Lib.hid (HO.out.alloc (.cells ((twoV k).map b8).toArray 5))
      have HS5 := Lib.hid (HSe.out.alloc (.cells ((twoV k).map b8).toArray 5))
      have hSx := Lib.hid (lsend_any (wr.alloc (.cells ((twoV k).map b8).toArray 5)) gx false 0 0#64 ka kb k HX5.out (by omega) (some ⟨wr.heap.size, 0, none⟩) 2 2 (wr.heap.size + 1) (twoV k) (Rd.new b8 wr 5 (twoV k)) (by omega) rfl (by omega))
      go_wp2_with fail
      refine hSx.out.mono ?_
      clear hSx e0 e1
      rintro e w6 ⟨v6, rfl, ho6, hx6, hg6⟩
      obtain ⟨A6, c6, rfl, -, -, -, -⟩ := ho6.shape' (n := 22) (by rw [msgV_len _ _ _ (by simp [twoV])]; rfl)
      have hz6 := hg6.size
      have HO6 := Lib.hid (HO5.out.kept hg6 (.inr (fun e => by have := HO5.out.lt gx e; omega)))
      have HS6 := Lib.hid ((HS5.out.kept hg6 (by omega)))
      have HM6 := Lib.hid (ho6.less (B' := B0) (by omega))
      have HY6 := Lib.hid (HY5.out.grown hg6 (by simp; omega))
      have HP6 := Lib.hid (HP5.out.grown hg6 (by omega) (fun q e => by cases e; omega))
      have HX6 := Lib.hid hx6
      clear ho6 hx6 hg6 HX5 HY5 HP5 HO5 HS5
      have hB6 : B0 ≤ w6.heap.size := by omega
      go_wp2_with (first
        | (at_builtin; refine wpList_append_rd rfl (.tmp 56) (.tmp 58) 44 rfl sl_one B0 47 j0 _ 24 Try.underlying44 hj0 hy0 hy1 hy2 rfl _ vs rfl (HO6.out.alloc (.cells ([(A6, 22, c6)].map sl).toArray 47)) (w6.heap.size + 1) (some ⟨w6.heap.size, 0, none⟩) 1 1 [(A6, 22, c6)] rfl rfl (Rd.new sl w6 47 [(A6, 22, c6)]) (by rw [HVs.out]; simp [maxLen]; omega) (by rw [HVs.out]; simp; omega) (by rw [World.size_alloc]; omega) ?_; intro v7 w7 hown7 hg7 hbb7; have HO7 := Lib.hid hown7; have hz7 := hg7.size; have HP7 := Lib.hid (hbb7 _ _ hBW (HP6.out.alloc (by omega) _)); have HB7 := Lib.hid (hbb7 B0 w6 (Nat.le_refl _) ((Below.refl B0 w6).alloc hB6 _)); have HS7 := Lib.hid (((HS6.out.snoc HVs.out HM6.out).alloc _).grew hg7 (HO6.out.alloc _) (by decide)); rw [World.size_alloc] at hz7; clear hown7 hg7 hbb7))
      go_roundw
      case rel =>
        have e1 : ((k + 1 : Nat) : Int) = (k : Int) + 1 := by omega
        refine ⟨k + 1, vs ++ [(A6, 22, c6)], by omega, by go_num, by rw [List.length_append, HVs.out]; rfl, HO7.out, HS7.out, ?_, HY6.out.below HB7.out hgyB, HP7.out, by omega⟩
        rw [e1]
        exact HX6.out.below HB7.out (by omega)
      case measure => simp [intOf]; omega
    · obtain rfl : M = k := by omega
      go_wp2_with (refine wpList_make_full _ rfl (.tmp 61) (.tmp 61) 22 rfl wr.heap.size 3 i0 _ 1 Try.underlying22 hi0 hz0 hz1 .i64 .i64 (M : Int) (M : Int) M rfl rfl rfl rfl (by rw [hz2]; omega) (by simp [maxLen]; omega) (by simp) ?_; intro w5 hown5 hg5)
      have HT := Lib.hid (own_zerosL hown5)
      have hz5 : wr.heap.size < w5.heap.size := (HT.out.lt _ rfl).2
      have hbb : Below wr.heap.size wr w5 := (Below.refl wr.heap.size wr).grown hg5 (Nat.le_refl _) (fun k e => by cases e)
      have HSe5 := Lib.hid (show Sent w5 B0 ka vs from fun j A n c hj => (HSe.out j A n c hj).below hbb (Nat.le_refl _))
      have HY5 := Lib.hid (HY.out.below hbb (by omega))
      have HP5 := Lib.hid (HW.out.trans (hbb.mono HW.out.size))
      have HV5 := Lib.hid (HO.out.below hbb (Nat.le_refl _))
      clear hown5 hg5 hbb HSe HY HW HRv HX HO
      obtain ⟨P, hP⟩ : ∃ P, P = wr.heap.size := ⟨_, rfl⟩
      rw [← hP] at HT hBw hz5 ⊢
      clear hP
      go_wp2_with fail
      go_loopw [16, 65] (fun v i wr => ∃ (k : Nat) (T L : List Int) (t : Bool) (h : Int) (s : BitVec 64), k ≤ n ∧ i = .int .i64 (k : Int) ∧ v = .int .i64 (hiL L) ∧ Own i64v wr P 3 (.slice (some ⟨P, 0, none⟩) M M) T ∧ Times M T L ∧ Inv L t h s ∧ LinkAt wr gy t h s kb ka 0 ∧ Sent wr B0 ka vs ∧ Own sl wr B0 47 (.slice Av M cv) vs ∧ Below W.heap.size W wr ∧ P < wr.heap.size) (fun _ i _ => n - (intOf i).toNat)
      case atStart => exact ⟨0, List.replicate M 0, [], false, 0, 0#64, by omega, rfl, rfl, HT.out, Times.start M, Inv.start, HY5.out, HSe5.out, HV5.out, HP5.out, hz5⟩
      case round =>
        clear HT HSe5 HY5 HP5 HV5
        obtain ⟨k, T, L, t, h, s, hk, rfl, rfl, hT, hTi, hI, hy, hse, hrv, hb, hPw⟩ := hrel
        have HT := Lib.hid hT
        have HTi := Lib.hid hTi
        have HI := Lib.hid hI
        have HY := Lib.hid hy
        have HSe := Lib.hid hse
        have HRv := Lib.hid hrv
        have HW := Lib.hid hb
        clear hT hTi hI hy hse hrv hb
        by_cases hlt2 : k < n
        · obtain ⟨b1, o1, rfl, hb1, c1⟩ := HR.out.at_ (k := k) (by rw [HN.out]; exact hlt2)
          generalize ys[k]'(by rw [HN.out]; exact hlt2) = y at c1
          have c1' : wr.cell? ⟨b1, o1 + k, none⟩ = some (.int .i64 y) := (HW.out.cell (p := ⟨b1, o1 + k, none⟩) hb1).trans c1
          clear c1
          go_upto_region 22 with fail
          obtain ⟨K, hK, hKM⟩ := umod_lto (IntKind.u64.wrap y) M (by rw [ofint_u64]; unfold bv; omega) (by omega)
          have HKW := Lib.hid (show wrap64 ((IntKind.u64.wrap y).tmod (M : Int)) = (K : Int) by rw [hK]; exact IntWalk.wrap64_in _ (by omega))
          rw [HKW.out]
          clear hK HKW
          have hKv : K < vs.length := by rw [HVs.out]; exact hKM
          obtain ⟨⟨A2, n2, c2⟩, hv2⟩ : ∃ u, vs[K]? = some u := ⟨_, List.getElem?_eq_getElem hKv⟩
          obtain ⟨b2, o2, rfl, -, cv2⟩ := HRv.out.rd.at_ hKv
          rw [show vs[K] = (A2, n2, c2) from (List.getElem?_eq_some_iff.1 hv2).2] at cv2
          have cv2' : wr.cell? ⟨b2, o2 + K, none⟩ = some (.slice A2 n2 c2) := cv2
          have hom := HSe.out K A2 n2 c2 hv2
          obtain rfl : n2 = 22 := by rw [hom.len, msgV_len _ _ _ (by simp [twoV])]; rfl
          obtain ⟨A2', c2', e2, -, -, hc2, hc2'⟩ := hom.shape' (n := 22) (by rw [msgV_len _ _ _ (by simp [twoV])]; rfl)
          cases e2
          have hTk := Lib.hid (ltake_msg wr gy t h s kb ka 0 HY.out HI.out.bound K (by omega) A2 22 2 c2 wr.heap.size (twoV K) hom.rd (Nat.le_refl _) rfl (by omega) rfl hc2 hc2')
          have hch := HI.out.check (K : Int)
          have hrc : refCheck L (K : Int) = if (K : Int) < hiL L - 64 then 11 else if (K : Int) ∈ L then 7 else 0 := by unfold refCheck; rw [if_neg (by omega)]
          have HRc := Lib.hid hrc
          have hrg := HI.out.range HTi.out
          have hTl := HTi.out.len
          have hcn := HTi.out.cnt K (by rw [hTl]; exact hKM)
          have hcT := (HT.out.at_ (k := K) (by rw [hTl]; exact hKM)).1
          obtain ⟨H, hH⟩ : ∃ H, H = hiL L := ⟨_, rfl⟩
          rw [← hH] at hrc hrg ⊢
          have HH := Lib.hid hH
          have HCh := Lib.hid hch
          clear cv2 hv2 hom hch hH
          have hH1 : -1 ≤ H := hrg.1
          have hH2 : H < 200 := by omega
          clear hrg
          by_cases h0 : refCheck L (K : Int) = 0
          · have H0 := Lib.hid h0
            rw [hrc] at h0
            have hKL : (K : Int) ∉ L := fun hm => by
              by_cases e : (K : Int) < H - 64
              · rw [if_pos e] at h0; omega
              · rw [if_neg e, if_pos hm] at h0; omega
            rw [if_neg hKL] at hcn
            rw [hcn] at hcT
            have hcT' : wr.cell? ⟨P, K, none⟩ = some (.int .i64 0) := hcT
            clear hcT hcn h0 hrc hTl
            go_wp2_with fail
            refine hTk.out.mono ?_
            rintro e w6 ⟨-, hq⟩
            obtain ⟨v6, rfl, ho6, hy6, hg6⟩ := hq (HCh.out.trans H0.out)
            obtain ⟨g6, c6, rfl, hg6P, hg6l, hc6⟩ := ho6.form' (n := 2) rfl (by omega)
            have hp0 : w6.cell? ⟨g6, 0, none⟩ = some (.int .u8 (K : Int)) := by
              have := (ho6.at_ (k := 0) (by simp [twoV])).1
              rw [show (twoV K)[0]'(by simp [twoV]) = BitVec.ofNat 8 K from rfl, b8_small K (by omega)] at this
              exact this
            have hp1 : w6.cell? ⟨g6, 1, none⟩ = some (.int .u8 0) := by
              have := (ho6.at_ (k := 1) (by simp [twoV])).1
              rw [show (twoV K)[1]'(by simp [twoV]) = BitVec.ofNat 8 (K / 256) from rfl, show K / 256 = 0 by omega] at this
              exact this
            have hz6 := hg6.size
            have HT6 := Lib.hid ((HT.out.kept hg6 (.inr (by simp [Value.ownBlock]; omega))))
            have hcf := HT6.out.at_ (k := K) (by rw [HTi.out.len]; exact hKM)
            have hcT6 : w6.cell? ⟨P, K, none⟩ = some (.int .i64 0) := (World.cell?_of_block (a := ⟨P, K, none⟩) (hg6.block P hPw (by simp; omega))).trans hcT'
            have hfT6 := hcf.2
            have HS6 := Lib.hid (HSe.out.kept hg6 hgyB)
            have HRv6 := Lib.hid (HRv.out.kept hg6 (.inr (fun e => by have := HRv.out.lt gy e; omega)))
            have HW6 := Lib.hid (HW.out.grown hg6 (by omega) (fun q e => by cases e; omega))
            have HI6 := HI.out.mark (K : Int) H0.out
            have hhi : hiL (L ++ [(K : Int)]) = if H < (K : Int) then (K : Int) else H := by rw [hiL_snoc, HH.out]
            have hHi := lhighest_any w6 gy (winMark t h s (K : Int)).1 (winMark t h s (K : Int)).2.1 (winMark t h s (K : Int)).2.2 kb ka 0 hy6
            obtain ⟨w7, hw7⟩ : ∃ w7, w7 = w6.setCell ⟨P, K, none⟩ (.int .i64 1) := ⟨_, rfl⟩
            have hg7 : w6.grownBy w7 (some P) := by rw [hw7]; exact grownBy_setCell w6 P K _
            have HT7 := Lib.hid (show Own i64v w7 P 3 (.slice (some ⟨P, 0, none⟩) M M) (T.set K 1) by rw [hw7]; exact (HT6.out.set_ K (1 : Int)).1)
            have HS7 := Lib.hid (HS6.out.row hg7 HT6.out rfl (by decide))
            have HRv7 := Lib.hid (HRv6.out.kept hg7 (.inr (HT6.out.unlike HRv6.out (by decide) P rfl)))
            have hy7 := hy6.grown hg7 (by simp; omega)
            have HY7 := Lib.hid hy7
            have HW7 := Lib.hid (HW6.out.grown hg7 (by omega) (fun q e => by cases e; omega))
            have hz7 := hg7.size
            have hcT7 : w7.cell? ⟨P, K, none⟩ = some (.int .i64 1) := by rw [hw7]; exact cell_eq hcT6
            have hp0' : w7.cell? ⟨g6, 0, none⟩ = some (.int .u8 (K : Int)) := (World.cell?_of_block (a := ⟨g6, 0, none⟩) (hg7.block g6 hg6l (by simp; omega))).trans hp0
            have hp1' : w7.cell? ⟨g6, 1, none⟩ = some (.int .u8 0) := (World.cell?_of_block (a := ⟨g6, 1, none⟩) (hg7.block g6 hg6l (by simp; omega))).trans hp1
            have hHi7 := lhighest_any w7 gy _ _ _ kb ka 0 hy7
            rw [HI6.hi, hhi] at hHi7
            have HI7 := Lib.hid HI6
            have HHhi := Lib.hid hhi
            have HHi7 := Lib.hid hHi7
            have HW7e := Lib.hid hw7
            have HTi7 := Lib.hid (HTi.out.more K hKM)
            clear hq ho6 hy6 hy7 hg6 hg7 hcf hTk hcT' cv2' c1' hHi hHi7 HI6 hhi hw7 hp0 hp1 HS6 HT6 HRv6 HW6
            have hdd : decide ((1 : Int) > 1) = false := rfl
            have hKK : (K : Int) < 200 := by omega
            by_cases hHK : H < (K : Int)
            ·
              rw [if_pos hHK] at HHhi HHi7
              go_upto_region 26 with fail
              rw [← HW7e.out]
              go_quiet (fail)
              have HT8 := Lib.hid (HT7.out.drewN nq)
              have HS8 := Lib.hid (show Sent (w7.drewN nq) B0 ka vs from fun j A n c hj => (HS7.out j A n c hj).drewN nq)
              have HRv8 := Lib.hid (HRv7.out.drewN nq)
              have HY8 := Lib.hid (HY7.out.keep (w' := w7.drewN nq) rfl)
              have HW8 := Lib.hid (show Below W.heap.size W (w7.drewN nq) from ⟨HW7.out.os, HW7.out.tape, HW7.out.output, HW7.out.size, HW7.out.block⟩)
              have hHi8 := lhighest_any (w7.drewN nq) gy _ _ _ kb ka 0 HY8.out
              rw [HI7.out.hi, HHhi.out] at hHi8
              have HHi8 := Lib.hid hHi8
              clear hHi8 HHi7
              go_wp2_with (go_at_call 22; refine HHi8.out.mono ?_; rintro e w' ⟨rfl, rfl⟩)
              go_roundw
              case rel => exact ⟨k + 1, T.set K 1, L ++ [(K : Int)], _, _, _, by omega, by go_num, by rw [HHhi.out], HT8.out, HTi7.out, HI7.out, HY8.out, HS8.out, HRv8.out, HW8.out, Nat.lt_of_lt_of_le hPw (Nat.le_trans hz6 hz7)⟩
              case measure => simp [intOf]; omega
            ·
              rw [if_neg hHK] at HHhi HHi7
              go_upto_region 26 with fail
              rw [← HW7e.out]
              go_quiet (fail)
              have HT8 := Lib.hid (HT7.out.drewN nq)
              have HS8 := Lib.hid (show Sent (w7.drewN nq) B0 ka vs from fun j A n c hj => (HS7.out j A n c hj).drewN nq)
              have HRv8 := Lib.hid (HRv7.out.drewN nq)
              have HY8 := Lib.hid (HY7.out.keep (w' := w7.drewN nq) rfl)
              have HW8 := Lib.hid (show Below W.heap.size W (w7.drewN nq) from ⟨HW7.out.os, HW7.out.tape, HW7.out.output, HW7.out.size, HW7.out.block⟩)
              have hHi8 := lhighest_any (w7.drewN nq) gy _ _ _ kb ka 0 HY8.out
              rw [HI7.out.hi, HHhi.out] at hHi8
              have HHi8 := Lib.hid hHi8
              clear hHi8 HHi7
              go_wp2_with (go_at_call 22; refine HHi8.out.mono ?_; rintro e w' ⟨rfl, rfl⟩)
              go_roundw
              case rel => exact ⟨k + 1, T.set K 1, L ++ [(K : Int)], _, _, _, by omega, by go_num, by rw [HHhi.out], HT8.out, HTi7.out, HI7.out, HY8.out, HS8.out, HRv8.out, HW8.out, Nat.lt_of_lt_of_le hPw (Nat.le_trans hz6 hz7)⟩
              case measure => simp [intOf]; omega
          · have hne : refCheck L (K : Int) ≠ 0 := h0
            have hep := errV_pos hne
            have hkl : (K : Int) ∉ L → ¬ ((K : Int) ≥ H - 64) := fun hm => by
              by_cases e : (K : Int) < H - 64
              · omega
              · rw [hrc, if_neg e, if_neg hm] at h0; exact absurd rfl h0
            have hHi := lhighest_any wr gy t h s kb ka 0 HY.out
            rw [HI.out.hi, ← HH.out] at hHi
            have HHi := Lib.hid hHi
            have HEp := Lib.hid hep
            have HNe := Lib.hid hne
            clear hHi hep hne h0 hrc
            by_cases hm : (K : Int) ∈ L
            · rw [if_pos hm] at hcn
              rw [hcn] at hcT
              have hcT' : wr.cell? ⟨P, K, none⟩ = some (.int .i64 1) := hcT
              clear hcT hcn hTl hkl
              go_wp2_with fail
              refine hTk.out.mono ?_
              rintro e w' ⟨hq, -⟩
              obtain ⟨rfl, rfl⟩ := hq (by rw [HCh.out]; exact HNe.out)
              rw [HCh.out, HEp.out]
              clear hq
              go_wp2_with (go_at_call 22; refine HHi.out.mono ?_; rintro e w' ⟨rfl, rfl⟩)
              go_roundw
              case rel => exact ⟨k + 1, T, L, t, h, s, by omega, by go_num, by rw [HH.out], HT.out, HTi.out, HI.out, HY.out, HSe.out, HRv.out, HW.out, hPw⟩
              case measure => simp [intOf]; omega
            · rw [if_neg hm] at hcn
              rw [hcn] at hcT
              have hcT' : wr.cell? ⟨P, K, none⟩ = some (.int .i64 0) := hcT
              have hk64 := hkl hm
              clear hcT hcn hTl hkl
              go_wp2_with fail
              refine hTk.out.mono ?_
              rintro e w' ⟨hq, -⟩
              obtain ⟨rfl, rfl⟩ := hq (by rw [HCh.out]; exact HNe.out)
              rw [HCh.out, HEp.out]
              clear hq
              go_wp2_with (go_at_call 22; refine HHi.out.mono ?_; rintro e w' ⟨rfl, rfl⟩)
              go_roundw
              case rel => exact ⟨k + 1, T, L, t, h, s, by omega, by go_num, by rw [HH.out], HT.out, HTi.out, HI.out, HY.out, HSe.out, HRv.out, HW.out, hPw⟩
              case measure => simp [intOf]; omega
        · obtain rfl : n = k := by omega
          go_wp2_with fail
          go_ret
          exact ⟨rfl, HW.out⟩
end Go.Proofs.Ytkoefhbmkmepaaa
