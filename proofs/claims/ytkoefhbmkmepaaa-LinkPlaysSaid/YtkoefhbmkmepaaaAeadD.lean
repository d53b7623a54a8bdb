/- PLAIN DEFINITIONS: what a sealed text is; the errors' numbers. No program, no conditions. -/
import Derived.Test.YtkoefhbmkmepaaaPolyD
import Derived.Test.YtkoefhbmkmepaaaPieceAny
import Derived.Test.YtkoefhbmkmepaaaRefMix
namespace Go.Proofs.Ytkoefhbmkmepaaa
set_option linter.unusedVariables false
set_option linter.unusedSimpArgs false

def fillN (n : Nat) : Nat := (16 - n % 16) % 16
/-- the text that is marked -/
def aeadText (ctx mixed : List (BitVec 8)) : List (BitVec 8) :=
  ctx ++ (List.replicate (fillN ctx.length) 0#8 ++ (mixed ++ (List.replicate (fillN mixed.length) 0#8 ++ (le8 (BitVec.ofNat 64 ctx.length) ++ le8 (BitVec.ofNat 64 mixed.length)))))
theorem le8_len (n : BitVec 64) : (le8 n).length = 8 := by simp [le8]
theorem aeadText_len (ctx mixed : List (BitVec 8)) : (aeadText ctx mixed).length ≤ ctx.length + mixed.length + 48 := by
  unfold aeadText fillN
  simp only [List.length_append, List.length_replicate, le8_len]
  omega
def aeadKey (key nonce : List (BitVec 8)) : List (BitVec 8) := (pieceV key nonce 0).take 32
theorem aeadKey_len (key nonce : List (BitVec 8)) : (aeadKey key nonce).length = 32 := by
  unfold aeadKey; rw [List.length_take, pieceV_len]; rfl
/-- the mark of a context and a mixed text -/
def tagOf (key nonce ctx mixed : List (BitVec 8)) : List (BitVec 8) := markV (aeadKey key nonce) (aeadText ctx mixed)
theorem tagOf_len (key nonce ctx mixed : List (BitVec 8)) : (tagOf key nonce ctx mixed).length = 16 := markV_len _ _
def sealBad (n c t : Nat) : Nat := if n ≠ 12 ∨ 1048576 < c ∨ 1048576 < t then 1 else 0
def sealV (key nonce ctx text : List (BitVec 8)) : List (BitVec 8) := if sealBad nonce.length ctx.length text.length = 0 then mixV key nonce 1 text ++ tagOf key nonce ctx (mixV key nonce 1 text) else []
def openBad (key nonce ctx sealed : List (BitVec 8)) : Nat :=
  if nonce.length ≠ 12 ∨ 1048592 < ctx.length ∨ 1048592 < sealed.length then 1
  else if sealed.length < 16 then 2
  else if tagOf key nonce ctx (sealed.take (sealed.length - 16)) = sealed.drop (sealed.length - 16) then 0 else 2
def openV (key nonce ctx sealed : List (BitVec 8)) : List (BitVec 8) := if openBad key nonce ctx sealed = 0 then mixV key nonce 1 (sealed.take (sealed.length - 16)) else []
theorem mixV_len1 (key nonce text : List (BitVec 8)) (hn : nonce.length = 12) (ht : text.length ≤ 1100000) : mixBad 12 text.length 1 = 0 ∧ (mixV key nonce 1 text).length = text.length := by
  have hb : badP 12 1 = 0 := rfl
  have h0 : mixBad 12 text.length 1 = 0 := mixBad_none hb (fun k hk => by have := Nat.div_le_self k 64; omega)
  refine ⟨h0, ?_⟩
  unfold mixV
  rw [hn, if_pos h0, mixTo_len]
theorem mixTo_back (key nonce text : List (BitVec 8)) : mixTo key nonce 1 (mixTo key nonce 1 text text.length) text.length = text := by
  apply List.ext_getElem
  · rw [mixTo_len]
  · intro i h1 h2
    have e : (mixTo key nonce 1 text text.length).getD i 0#8 = mixAt key nonce 1 text i := by
      unfold mixTo; simp [List.getD, h2]
    have e2 : (mixTo key nonce 1 (mixTo key nonce 1 text text.length) text.length)[i] = mixAt key nonce 1 (mixTo key nonce 1 text text.length) i := by
      simp [mixTo]
    rw [e2]
    unfold mixAt at e ⊢
    rw [e, BitVec.xor_assoc, BitVec.xor_self, BitVec.xor_zero]
    simp [List.getD, h2]
theorem mixV_ok (key nonce text : List (BitVec 8)) (hn : nonce.length = 12) (ht : text.length ≤ 1100000) : mixV key nonce 1 text = mixTo key nonce 1 text text.length := by
  unfold mixV; rw [hn, if_pos (mixV_len1 key nonce text hn ht).1]
theorem mixV_back (key nonce text : List (BitVec 8)) (hn : nonce.length = 12) (ht : text.length ≤ 1100000) : mixV key nonce 1 (mixV key nonce 1 text) = text := by
  have h1 := mixV_len1 key nonce text hn ht
  have h2 := mixV_len1 key nonce (mixV key nonce 1 text) hn (by rw [h1.2]; exact ht)
  have e := mixV_ok key nonce text hn ht
  have e2 := mixV_ok key nonce (mixV key nonce 1 text) hn (by rw [h1.2]; exact ht)
  rw [e2, h1.2, e, mixTo_back]
end Go.Proofs.Ytkoefhbmkmepaaa
