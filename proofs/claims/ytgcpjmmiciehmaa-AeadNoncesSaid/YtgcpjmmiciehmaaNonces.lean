/- AeadNonces: aead.Nonce and burrowref04.Nonce give the same twelve bytes for every number, in memory of their own. -/
import Derived.Test.YtgcpjmmiciehmaaApart
import Derived.Test.YtgcpjmmiciehmaaNum
namespace Go.Proofs.Ytgcpjmmiciehmaa
open Go.RowKit

theorem nonce_len (n : BitVec 64) : (nonce n).length = 12 := by simp [nonce, le8]

/-- two lists in rows of their own -/
theorem lone2 {x y : Sl} (h : ∀ g, (sl x).ownBlock = some g → (sl y).ownBlock ≠ some g) : Lone [x, y] := by
  intro i j a b ha hb hij g hg
  match i, j, ha, hb with
  | 0, 0, _, _ => exact absurd rfl hij
  | 0, 1, ha, hb => cases ha; cases hb; exact h g hg
  | 1, 0, ha, hb => cases ha; cases hb; exact fun e => h g e hg
  | 1, 1, _, _ => exact absurd rfl hij
  | i + 2, _, ha, _ => simp at ha
  | 0, j + 2, _, hb => simp at hb
  | 1, j + 2, _, hb => simp at hb

set_option maxRecDepth 100000 in
set_option maxHeartbeats 1000000 in
theorem nonces_walk (n : Int) (w : World) :
    Calls Try.prog 3 #[.int .i64 n] w fun e w' => e = .returned (.bool true) ∧ Below w.heap.size w w' := by
  go_enter Try.func3, Try.ntmps3
  go_wp2_with fail
  refine (nonce_any _ _).mono ?_
  rintro e w1 ⟨v1, rfl, ho1, hb1⟩
  obtain ⟨g1, c1, rfl, hB1, hg1, -⟩ := ho1.form' (nonce_len _) (by omega)
  have hc4 : w1.cell? ⟨g1, 4, none⟩ = some (.int .u8 2) := (ho1.at_ (k := 4) (by rw [nonce_len]; omega)).1
  have hc5 : w1.cell? ⟨g1, 5, none⟩ = some (.int .u8 1) := (ho1.at_ (k := 5) (by rw [nonce_len]; omega)).1
  have hz1 := hb1.size
  have Ho1 := Lib.hid ho1
  clear ho1
  go_wp2_with fail
  refine (nonce_any _ _).mono ?_
  rintro e w2 ⟨v2, rfl, ho2, hb2⟩
  obtain ⟨A2, c2, rfl, hr2, -, -, -⟩ := ho2.shape' (nonce_len _)
  have hz2 := hb2.size
  go_wp2_with fail
  refine (refNonce_any _ _).mono ?_
  rintro e w3 ⟨v3, rfl, ho3, hb3⟩
  obtain ⟨A3, c3, rfl, hr3, -, -, -⟩ := ho3.shape' (nonce_len _)
  have hz3 := hb3.size
  go_wp2_with fail
  refine (same_any c2 c3 (hr2.below hb3) hr3 (nonce_len _) (nonce_len _)).mono ?_
  rintro e w' ⟨rfl, rfl⟩
  clear hr2 hr3 ho2 ho3
  go_wp2_with fail
  refine (nonce_any _ _).mono ?_
  rintro e w4 ⟨v4, rfl, ho4, hb4⟩
  obtain ⟨g4, c4, rfl, hB4, hg4, -⟩ := ho4.form' (nonce_len _) (by omega)
  have hz4 := hb4.size
  have Ho4 := Lib.hid ho4
  clear ho4
  go_wp2_with fail
  refine (apart_any [(some ⟨g4, 0, none⟩, 12, c4), (some ⟨g1, 0, none⟩, 12, c1)] (fun _ => 12) _ _ _ _ w.heap.size rfl
    (Own.lit sl w4 _ _ [(some ⟨g4, 0, none⟩, 12, c4), (some ⟨g1, 0, none⟩, 12, c1)] (by omega) (by simp [maxLen])) (fun i x hx => ?_) (lone2 (fun g hg => ?_)) (by (first | omega | (simp; done) | (simp; omega) | (simp at *; omega))) (by simp) (by intro _; simp)).mono ?_
  · match i, hx with
    | 0, hx => cases hx; exact ⟨_, (Ho4.out.less (by omega)).alloc _, nonce_len _⟩
    | 1, hx => cases hx; exact ⟨_, ((((Ho1.out.below hb2 (Nat.le_refl _)).below hb3 (Nat.le_refl _)).below hb4 (Nat.le_refl _)).alloc _), nonce_len _⟩
    | i + 2, hx => simp at hx
  · simp only [sl, Value.ownBlock, Option.some.injEq, ne_eq] at hg ⊢
    omega
  rintro e w5 ⟨rfl, hb5⟩
  go_wp2
  go_ret
  refine ⟨rfl, Below.trans (b := w4.alloc (.cells #[.slice (some ⟨g4, 0, none⟩) 12 c4, .slice (some ⟨g1, 0, none⟩) 12 c1] 22)) ?_ hb5⟩
  exact ((((hb1.trans (hb2.mono (by omega))).trans (hb3.mono (by omega))).trans (hb4.mono (by omega))).alloc (by omega) _)
end Go.Proofs.Ytgcpjmmiciehmaa
