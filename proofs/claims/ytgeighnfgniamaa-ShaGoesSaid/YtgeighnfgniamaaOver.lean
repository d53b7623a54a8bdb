/- CONTRACT: burrownum.Over. -/
import Derived.Test.YtgeighnfgniamaaInfo
namespace Go.Proofs.Ytgeighnfgniamaa
open Go.RowKit
set_option linter.unusedVariables false
set_option linter.unusedSimpArgs false

set_option maxRecDepth 100000 in
set_option maxHeartbeats 1000000 in
theorem over_any {w : World} {B : Nat} {v : Value} {xs : List (BitVec 8)} (ho : Own b8 w B 5 v xs) (hx : xs.length ≤ 1000000000) :
    Calls Try.prog 34 #[v] w fun e w' => e = .returned (.tuple #[]) ∧ w.grownBy w' v.ownBlock := by
  obtain ⟨n, hn⟩ : ∃ n, n = xs.length := ⟨_, rfl⟩
  by_cases h0 : n = 0
  · obtain ⟨A, c, rfl, -, -, -, -⟩ := ho.shape' (n := 0) (by omega)
    clear ho hx hn h0
    go_enter Try.func34, Try.ntmps34
    go_wp2
    go_loopw [2, 5] (fun cv iv wr => iv = .int .i64 0 ∧ wr = w) (fun _ iv _ => 0)
    case atStart => exact ⟨rfl, rfl⟩
    case round =>
      obtain ⟨rfl, rfl⟩ := hrel
      go_wp2
      go_end0
      exact ⟨rfl, World.grownBy.refl _ _⟩
  · obtain ⟨g, cap, rfl, hg, hlt, hcap⟩ := ho.form' hn.symm (by omega)
    have HO := Lib.hid ho
    have Hn := Lib.hid hn
    rw [← hn] at hx
    clear ho hn h0
    go_enter Try.func34, Try.ntmps34
    go_wp2
    go_loopw [2, 5] (fun cv iv wr => ∃ (k : Nat) (ys : List (BitVec 8)), k ≤ n ∧ iv = .int .i64 (k : Int) ∧ ys.length = n ∧ Own b8 wr B 5 (.slice (some ⟨g, 0, none⟩) n cap) ys ∧ w.grownBy wr (some g)) (fun _ iv _ => n - (intOf iv).toNat)
    case atStart => exact ⟨0, xs, by omega, rfl, Hn.out.symm, HO.out, World.grownBy.refl _ _⟩
    case round =>
      obtain ⟨k, ys, hk, rfl, hyl, hown, hgr⟩ := hrel
      by_cases hlt' : k < n
      · have hlt2 : (k : Int) < (n : Int) := by omega
        have hc := hown.at_ (k := k) (by rw [hyl]; exact hlt')
        obtain ⟨x, hx'⟩ : ∃ x, x = ys[k]'(by rw [hyl]; exact hlt') := ⟨_, rfl⟩
        rw [← hx'] at hc
        have c1 : wr.cell? ⟨g, k, none⟩ = some (.int .u8 (bv x)) := hc.1
        have f1 := hc.2
        have Hs := Lib.hid (hown.set_ k (x ^^^ 255#8))
        have Hyl := Lib.hid hyl
        have Hgr := Lib.hid hgr
        clear hc hx' hown hyl hgr
        go_wp2
        go_roundw
        case rel => exact ⟨k + 1, ys.set k (x ^^^ 255#8), by omega, by go_num, by rw [List.length_set]; exact Hyl.out, Hs.out.1, grownBy_trans Hgr.out Hs.out.2 (fun _ e => .inl e)⟩
        case measure => simp [intOf]; omega
      · obtain rfl : k = n := by omega
        go_wp2
        go_end0
        exact ⟨rfl, hgr⟩
end Go.Proofs.Ytgeighnfgniamaa
