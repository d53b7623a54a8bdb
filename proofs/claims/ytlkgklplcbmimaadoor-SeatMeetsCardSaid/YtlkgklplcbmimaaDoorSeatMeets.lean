/- the walk of SeatMeets. -/
import Derived.Test.YtlkgklplcbmimaaDoorSeatCommon
import Derived.Test.YtlkgklplcbmimaaDoorSeatTree
namespace Go.Proofs.YtlkgklplcbmimaaDoor
open Go.RowKit
set_option linter.unusedVariables false

def outB (b : Int) (i j z : Int) : Bool := decide (z < 0) || (decide (z ≤ 62) && !(decide (lo z b ≤ i) && decide (i ≤ hi z b) && decide (lo z b ≤ j) && decide (j ≤ hi z b)))
theorem law_meets : ∀ b ∈ ([1, 2, 4, 8, 16, 32] : List Nat), ∀ i : Nat, i < b → ∀ j : Nat, j < b → (decide (0 ≤ commonV (2 * i : Int) (2 * j : Int) (b : Int)) && decide (commonV (2 * i : Int) (2 * j : Int) (b : Int) ≤ 62)
    && decide (lo (commonV (2 * i : Int) (2 * j : Int) (b : Int)) (b : Int) ≤ i) && decide ((i : Int) ≤ hi (commonV (2 * i : Int) (2 * j : Int) (b : Int)) (b : Int)) && decide (lo (commonV (2 * i : Int) (2 * j : Int) (b : Int)) (b : Int) ≤ j) && decide ((j : Int) ≤ hi (commonV (2 * i : Int) (2 * j : Int) (b : Int)) (b : Int))
    && outB (b : Int) i j (childL (commonV (2 * i : Int) (2 * j : Int) (b : Int))) && outB (b : Int) i j (childR (commonV (2 * i : Int) (2 * j : Int) (b : Int))) && (decide (i ≠ j) || decide (commonV (2 * i : Int) (2 * j : Int) (b : Int) = 2 * i))) = true := by decide +kernel

theorem u64_mod (i : Int) (b : Nat) (b1 : 1 ≤ b) (b2 : b ≤ 32) : ∃ p : Nat, p < b ∧ (IntKind.u64.wrap i).tmod (b : Int) = (p : Int) := by
  have h1 : 0 ≤ IntKind.u64.wrap i := by rw [IntKind.wrap_u64]; omega
  rw [Int.tmod_eq_emod_of_nonneg h1]
  have h3 := Int.emod_nonneg (IntKind.u64.wrap i) (b := (b : Int)) (by omega)
  have h4 := Int.emod_lt_of_pos (IntKind.u64.wrap i) (b := (b : Int)) (by omega)
  exact ⟨(IntKind.u64.wrap i % (b : Int)).toNat, by omega, by omega⟩

theorem Tab.drewN' {w : World} (h : Tab w) (n : Nat) : Tab (w.drewN n) := h
set_option maxRecDepth 100000 in
set_option maxHeartbeats 4000000 in
theorem seatMeets_walk (i j k : Int) (i1 : -9223372036854775808 ≤ i) (i2 : i < 9223372036854775808) (j1 : -9223372036854775808 ≤ j) (j2 : j < 9223372036854775808) (k1 : -9223372036854775808 ≤ k) (k2 : k < 9223372036854775808) (w : World) (hT : Tab w) :
    Calls Tryd.prog 7 #[.int .i64 i, .int .i64 j, .int .i64 k] w fun e w' => e = .returned (.bool true) ∧ Below w.heap.size w w' := by
  obtain ⟨s, hs, hs6⟩ : ∃ j : Nat, (IntKind.u64.wrap k).tmod 6 = (j : Int) ∧ j < 6 := ⟨(IntKind.u64.wrap k % 6).toNat, by rw [Int.tmod_eq_emod_of_nonneg (by rw [IntKind.wrap_u64]; omega), IntKind.wrap_u64]; omega, by rw [IntKind.wrap_u64]; omega⟩
  obtain ⟨hw, hb⟩ := pow_size s hs6
  obtain ⟨b, hbj⟩ : ∃ b, b = 2 ^ s := ⟨_, rfl⟩
  rw [← hbj] at hw hb
  have hb32 : 1 ≤ b ∧ b ≤ 32 := by simp at hb; omega
  obtain ⟨b1, b2⟩ := hb32
  obtain ⟨p, hp, hpi⟩ := u64_mod i b b1 b2
  obtain ⟨q, hq, hqj⟩ := u64_mod j b b1 b2
  have hl := law_meets b hb p hp q hq
  simp only [Bool.and_eq_true, decide_eq_true_eq] at hl
  obtain ⟨⟨⟨⟨⟨⟨⟨⟨c0, c62⟩, l1⟩, l2⟩, l3⟩, l4⟩, oL⟩, oR⟩, heq⟩ := hl
  have cc := fun w ht => common_any (2 * (p : Int)) (2 * (q : Int)) (b : Int) (by omega) (by omega) (by omega) (by omega) w ht
  generalize hc : commonV (2 * (p : Int)) (2 * (q : Int)) (b : Int) = c at *
  have cb := fun w ht => below_any c (b : Int) (by omega) (by omega) (by omega) w ht
  have cch := fun w ht => children_any c (by omega) w ht
  generalize lo c (b : Int) = u at *
  generalize hi c (b : Int) = v at *
  generalize childL c = l at *
  generalize childR c = r at *
  have CC := Lib.hid cc
  have CB := Lib.hid cb
  have CH := Lib.hid cch
  have OL := Lib.hid oL
  have OR := Lib.hid oR
  have HT := Lib.hid hT
  have Heq := Lib.hid heq
  have hwp : IntKind.i64.wrap (p : Int) = p := IntWalk.i64_in _ (by omega)
  have hwq : IntKind.i64.wrap (q : Int) = q := IntWalk.i64_in _ (by omega)
  clear hbj hb cc cb cch oL oR hT heq hc k1 k2 i1 i2 j1 j2
  go_enter Tryd.func7, Tryd.ntmps7
  go_wp2_with fail
  go_quiet (fail)
  have hw2p : wrap64 (p : Int) = p := IntWalk.wrap64_in _ (by omega)
  have hw2q : wrap64 (q : Int) = q := IntWalk.wrap64_in _ (by omega)
  simp only [hw]
  clear hwp hwq hw2p hw2q
  go_wp2_with fail
  refine (CC.out _ (HT.out.drewN' _)).mono ?_
  rintro e w1 ⟨rfl, hb1⟩
  have bb1 := Lib.hid (below_step (below_drewN (Below.refl w.heap.size w) _) hb1)
  have T1 := Lib.hid ((HT.out.drewN' _).below hb1)
  clear hb1
  go_wp2_with fail
  refine (CB.out _ T1.out).mono ?_
  rintro e w' ⟨rfl, rfl⟩
  go_wp2_with fail
  refine (alive13_any _ T1.out).mono ?_
  rintro e w2 ⟨rfl, hb2⟩
  have bb2 := Lib.hid (below_step bb1.out hb2)
  have T2 := Lib.hid (T1.out.below hb2)
  clear hb2
  go_wp2_with fail
  refine (CH.out _ T2.out).mono ?_
  rintro e w' ⟨rfl, rfl⟩
  go_wp2_with fail
  have hR0 := Rd.new i64v w2 3 [l, r]
  go_loopw [78] (fun i wr => ∃ k : Nat, k ≤ 2 ∧ i = .int .i64 k ∧ Rd i64v wr (w2.heap.size + 1) (some ⟨w2.heap.size, 0, none⟩) [l, r] ∧ Tab wr ∧ Below w.heap.size w wr) (fun i _ => 2 - (intOf i).toNat)
  case atStart => exact ⟨0, by omega, rfl, hR0, T2.out.below ((Below.refl _ _).alloc (Nat.le_refl _) _), bb2.out.alloc bb2.out.size _⟩
  case round =>
    obtain ⟨k, hk, rfl, hR, hT3, hB⟩ := hrel
    by_cases hlt : k < 2
    · obtain ⟨z, hz, ho⟩ : ∃ z, [l, r][k]? = some z ∧ outB (b : Int) (p : Int) (q : Int) z = true := by
        match k, hlt with
        | 0, _ => exact ⟨l, rfl, OL.out⟩
        | 1, _ => exact ⟨r, rfl, OR.out⟩
      have hc : wr.cell? ⟨w2.heap.size, k, none⟩ = some (.int .i64 z) := by
        obtain ⟨g, off, e, _, hcc⟩ := hR (by simp)
        cases e
        have := hcc k z hz
        rw [Nat.zero_add] at this
        exact this
      have HR := Lib.hid hR
      have HT3 := Lib.hid hT3
      clear hR hT3 hz hR0
      by_cases hz0 : z < 0
      · clear ho
        go_wp2_with fail
        go_roundw
        case rel => exact ⟨k + 1, by omega, by go_num, HR.out, HT3.out, hB⟩
        case measure => simp [intOf]; omega
      · have hz62 : z ≤ 62 := by simp only [outB, Bool.or_eq_true, Bool.and_eq_true, decide_eq_true_eq] at ho; omega
        have cz := fun w ht => below_any z (b : Int) (by omega) (by omega) (by omega) w ht
        simp only [outB, Bool.or_eq_true, Bool.and_eq_true, Bool.not_eq_true', Bool.and_eq_false_iff, decide_eq_true_eq, decide_eq_false_iff_not] at ho
        generalize lo z (b : Int) = x at cz ho
        generalize hi z (b : Int) = y at cz ho
        have CZ := Lib.hid cz
        clear cz
        have hno : ¬ (x ≤ p ∧ (p : Int) ≤ y ∧ x ≤ q ∧ (q : Int) ≤ y) := by omega
        clear ho
        by_cases g1 : x ≤ (p : Int)
        · by_cases g2 : (p : Int) ≤ y
          · by_cases g3 : x ≤ (q : Int)
            · have g4 : y < (q : Int) := by omega
              clear hno
              go_wp2_with fail
              refine (CZ.out _ HT3.out).mono ?_
              rintro e w' ⟨rfl, rfl⟩
              go_wp2_with fail
              go_roundw
              case rel => exact ⟨k + 1, by omega, by go_num, HR.out, HT3.out, hB⟩
              case measure => simp [intOf]; omega
            · clear hno
              go_wp2_with fail
              refine (CZ.out _ HT3.out).mono ?_
              rintro e w' ⟨rfl, rfl⟩
              go_wp2_with fail
              go_roundw
              case rel => exact ⟨k + 1, by omega, by go_num, HR.out, HT3.out, hB⟩
              case measure => simp [intOf]; omega
          · clear hno
            go_wp2_with fail
            refine (CZ.out _ HT3.out).mono ?_
            rintro e w' ⟨rfl, rfl⟩
            go_wp2_with fail
            go_roundw
            case rel => exact ⟨k + 1, by omega, by go_num, HR.out, HT3.out, hB⟩
            case measure => simp [intOf]; omega
        · clear hno
          go_wp2_with fail
          refine (CZ.out _ HT3.out).mono ?_
          rintro e w' ⟨rfl, rfl⟩
          go_wp2_with fail
          go_roundw
          case rel => exact ⟨k + 1, by omega, by go_num, HR.out, HT3.out, hB⟩
          case measure => simp [intOf]; omega
    · obtain rfl : k = 2 := by omega
      clear hR hR0 hT3
      by_cases hpq : p = q
      · have hcp := (by have := Heq.out; simp only [Bool.or_eq_true, decide_eq_true_eq] at this; exact this.resolve_left (fun h => h hpq) : c = 2 * (p : Int))
        subst hpq
        have hcb : (c == 2 * (p : Int)) = true := by rw [beq_iff_eq]; exact hcp
        clear hcp
        go_wp2_with fail
        go_ret
        exact ⟨rfl, hB⟩
      · have hne : ((p : Int) != (q : Int)) = true := by rw [bne_iff_ne]; omega
        go_wp2_with fail
        go_ret
        exact ⟨rfl, hB⟩
end Go.Proofs.YtlkgklplcbmimaaDoor
