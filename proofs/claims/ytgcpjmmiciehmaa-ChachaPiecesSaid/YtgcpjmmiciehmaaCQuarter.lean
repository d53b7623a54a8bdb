/- ChachaQuarter: the quarter round of the program and the document's, at any four words. -/
import Derived.Test.YtgcpjmmiciehmaaRefQuarter
namespace Go.Proofs.Ytgcpjmmiciehmaa
open Go.RowKit

theorem alive03_any (w : World) : Calls Try.prog 21 #[] w fun e w' => e = .returned (.bool true) ∧ w = w' := by
  have h0 : quarter 286331153#32 16909060#32 2609737539#32 19088743#32 = (3928658676#32, 3407673550#32, 1166100270#32, 1484899515#32) := by decide +kernel
  go_enter Try.func21, Try.ntmps21
  go_wp2_with fail
  refine (quarter_any 286331153#32 16909060#32 2609737539#32 19088743#32 _).mono ?_
  rintro e w' ⟨rfl, rfl⟩
  rw [h0]
  have e1 : bv 3928658676#32 = 3928658676 := rfl
  have e2 : bv 3407673550#32 = 3407673550 := rfl
  have e3 : bv 1166100270#32 = 1166100270 := rfl
  have e4 : bv 1484899515#32 = 1484899515 := rfl
  clear h0
  go_wp2
  go_ret
  exact ⟨rfl, rfl⟩

set_option maxRecDepth 100000 in
set_option maxHeartbeats 1000000 in
theorem cquarter_walk (a b c d : BitVec 32) (w : World) :
    Calls Try.prog 4 #[.agg #[.int .u32 (bv a), .int .u32 (bv b), .int .u32 (bv c), .int .u32 (bv d)]] w fun e w' => e = .returned (.bool true) ∧ Below w.heap.size w w' := by
  go_enter Try.func4, Try.ntmps4
  go_wp2_with fail
  refine (quarter_any _ _ _ _ _).mono ?_
  rintro e w1 ⟨rfl, rfl⟩
  go_wp2_with fail
  refine (refQuarter_any _ _ _ _ _).mono ?_
  rintro e w2 ⟨v2, rfl, ho2, hb2⟩
  obtain ⟨g2, c2, rfl, hB2, hg2, -⟩ := ho2.form' (n := 4) rfl (by omega)
  have c0 := (ho2.at_ (k := 0) (by simp)).1
  have c1 := (ho2.at_ (k := 1) (by simp)).1
  have c2' := (ho2.at_ (k := 2) (by simp)).1
  have c3 := (ho2.at_ (k := 3) (by simp)).1
  simp only [b32, List.getElem_cons_zero, List.getElem_cons_succ] at c0 c1 c2' c3
  clear ho2
  go_wp2_with fail
  refine (alive03_any _).mono ?_
  rintro e w3 ⟨rfl, rfl⟩
  go_wp2
  go_ret
  exact ⟨rfl, Below.trans (by (repeat' (first | assumption | exact Below.refl _ _ | refine Below.drew ?_ | refine Below.alloc ?_ ?_ _ | omega | (simp; done) | (simp; omega)))) (hb2.mono (by (first | omega | (simp; done) | (simp; omega) | (simp at *; omega))))⟩
end Go.Proofs.Ytgcpjmmiciehmaa
