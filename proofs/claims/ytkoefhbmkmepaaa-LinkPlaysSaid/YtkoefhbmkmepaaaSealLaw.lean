/- PLAIN LAWS: what is sealed is opened. No program; conditions: the lengths that Seal takes. -/
import Derived.Test.YtkoefhbmkmepaaaAeadD
namespace Go.Proofs.Ytkoefhbmkmepaaa
set_option linter.unusedVariables false
set_option linter.unusedSimpArgs false

theorem sealBad_zero {n c t : Nat} (h : sealBad n c t = 0) : n = 12 ∧ c ≤ 1048576 ∧ t ≤ 1048576 := by
  unfold sealBad at h
  split at h
  · cases h
  · omega
theorem sealBad_or (n c t : Nat) : sealBad n c t = 0 ∨ sealBad n c t = 1 := by unfold sealBad; split <;> simp
theorem sealV_good (key nonce ctx text : List (BitVec 8)) (h : sealBad nonce.length ctx.length text.length = 0) : sealV key nonce ctx text = mixV key nonce 1 text ++ tagOf key nonce ctx (mixV key nonce 1 text) := by unfold sealV; rw [if_pos h]
theorem sealV_bad (key nonce ctx text : List (BitVec 8)) (h : sealBad nonce.length ctx.length text.length ≠ 0) : sealV key nonce ctx text = [] := by unfold sealV; rw [if_neg h]
theorem sealV_len (key nonce ctx text : List (BitVec 8)) (h : sealBad nonce.length ctx.length text.length = 0) : (sealV key nonce ctx text).length = text.length + 16 := by
  have hz := sealBad_zero h
  rw [sealV_good _ _ _ _ h, List.length_append, tagOf_len, (mixV_len1 key nonce text hz.1 (by omega)).2]
theorem open_seal (key nonce ctx text : List (BitVec 8)) (h : sealBad nonce.length ctx.length text.length = 0) : openBad key nonce ctx (sealV key nonce ctx text) = 0 ∧ openV key nonce ctx (sealV key nonce ctx text) = text := by
  have hz := sealBad_zero h
  have hl := sealV_len key nonce ctx text h
  have hm := (mixV_len1 key nonce text hz.1 (by omega)).2
  have ht : (sealV key nonce ctx text).take ((sealV key nonce ctx text).length - 16) = mixV key nonce 1 text := by
    rw [hl, Nat.add_sub_cancel, sealV_good _ _ _ _ h, List.take_append_of_le_length (by omega), List.take_of_length_le (by omega)]
  have hd : (sealV key nonce ctx text).drop ((sealV key nonce ctx text).length - 16) = tagOf key nonce ctx (mixV key nonce 1 text) := by
    rw [hl, Nat.add_sub_cancel, sealV_good _ _ _ _ h, List.drop_append_of_le_length (by omega), List.drop_of_length_le (by omega), List.nil_append]
  have hb : openBad key nonce ctx (sealV key nonce ctx text) = 0 := by
    unfold openBad
    rw [ht, hd, hl, if_neg (by omega), if_neg (by omega), if_pos rfl]
  refine ⟨hb, ?_⟩
  unfold openV
  rw [if_pos hb, ht, mixV_back key nonce text hz.1 (by omega)]
def K1 : List (BitVec 8) := 1#8 :: List.replicate 31 0#8
def K2 : List (BitVec 8) := 2#8 :: List.replicate 31 0#8
def nonce7 : List (BitVec 8) := [0#8, 0#8, 0#8, 0#8, 7#8, 0#8, 0#8, 0#8, 0#8, 0#8, 0#8, 0#8]
def sealed7 : List (BitVec 8) := sealV K1 nonce7 [99#8] [116#8, 101#8, 120#8, 116#8]
theorem wrong_key : openBad K2 nonce7 [99#8] sealed7 = 2 := by kernel_rfl
end Go.Proofs.Ytkoefhbmkmepaaa
