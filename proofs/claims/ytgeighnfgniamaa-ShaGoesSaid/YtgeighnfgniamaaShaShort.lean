/- the walk of ShaShort. -/
import Derived.Test.YtgeighnfgniamaaShaNone
import Derived.Test.YtgeighnfgniamaaRefShort
import Derived.Test.YtgeighnfgniamaaCopy
namespace Go.Proofs.Ytgeighnfgniamaa
open Go.RowKit
set_option linter.unusedVariables false
set_option linter.unusedSimpArgs false

set_option maxRecDepth 100000 in
set_option maxHeartbeats 1000000 in
theorem shaShort_walk (A : Option Addr) (n c : Nat) (xs : List (BitVec 8)) {W : World} (hr : Rd b8 W W.heap.size A xs) (hn : xs.length = n) (hc : n ≤ c) (hm : c ≤ maxLen) :
    Calls Try.prog 6 #[.slice A n c] W fun e w' => e = .returned (.bool true) ∧ Below W.heap.size W w' := by
  have HN := Lib.hid hn
  have HR := Lib.hid hr
  clear hn hr hc hm
  by_cases k1 : (n : Int) > 5000
  · go_enter Try.func6, Try.ntmps6
    go_wp2_with (go_at_call 21; refine (alive01_any _).mono ?_; rintro e w1 ⟨rfl, hb1⟩)
    go_ret
    exact ⟨rfl, hb1⟩
  have hnb : n ≤ 5000 := by omega
  obtain ⟨S, hS⟩ : ∃ S, S = sum32 xs := ⟨_, rfl⟩
  have hes : ∀ w, (binOp .eql 26 (.agg (S.map b8).toArray) (.agg (S.map b8).toArray)).run Try.prog w = .ok (.bool true) w := fun w => by
    rw [eql_sum w S S (by rw [hS, sum32_len]) (by rw [hS, sum32_len])]; simp
  have HS := Lib.hid hS
  clear hS
  go_enter Try.func6, Try.ntmps6
  go_wp2_with fail
  refine (alive01_any _).mono ?_
  rintro e w1 ⟨rfl, hb1⟩
  have HB1 := Lib.hid hb1
  clear hb1
  go_wp2_with fail
  refine (copy_any c (HR.out.below HB1.out) HB1.out.size HN.out (by omega)).mono ?_
  rintro e w2 ⟨v2, rfl, hc2, hb2⟩
  obtain ⟨g2, c2, rfl, hg2, hg2l, -, -⟩ := hc2.shape' HN.out
  have hz2 := hb2.size
  have HC2 := Lib.hid hc2
  have HB2 := Lib.hid (HB1.out.trans (hb2.mono HB1.out.size))
  clear hc2 hb2
  have hs := short_one w2 w2.heap.size n c2 (some ⟨g2, 0, none⟩) xs HC2.out.own.rd (Nat.le_refl _) HN.out.symm (by rw [HN.out]; omega)
  rw [arrV_mk, ← HS.out] at hs
  have HSh := Lib.hid hs
  clear hs
  go_wp2_with fail
  refine HSh.out.mono ?_
  rintro e w3 ⟨rfl, hb3⟩
  have hz3 := hb3.size
  have HC3 := Lib.hid (HC2.out.below hb3 (Nat.le_refl _))
  have HB3 := Lib.hid (HB2.out.trans (hb3.mono HB2.out.size))
  clear hb3 HSh HC2
  have hs := refShort_any w3 W.heap.size c n A xs (HR.out.below HB3.out) HB3.out.size HN.out.symm (by omega)
  rw [arrV_mk, ← HS.out] at hs
  have HSh := Lib.hid hs
  clear hs
  go_wp2_with fail
  refine HSh.out.mono ?_
  rintro e w4 ⟨rfl, hb4⟩
  have HC4 := Lib.hid (HC3.out.below hb4 (Nat.le_refl _))
  have HB4 := Lib.hid (HB3.out.trans (hb4.mono HB3.out.size))
  clear hb4 HSh HC3
  go_wp2_with fail
  refine (kept_any c HC4.out (HR.out.below HB4.out) HN.out rfl (by omega)).mono ?_
  rintro e w' ⟨rfl, rfl⟩
  go_wp2_with fail
  go_ret
  exact ⟨rfl, HB4.out⟩
end Go.Proofs.Ytgeighnfgniamaa
