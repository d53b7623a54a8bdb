/- PLAIN LAW: a window of 64 numbers against the list of all numbers that were taken. -/
import Derived.Test.YtkoefhbmkmepaaaWin
namespace Go.Proofs.Ytkoefhbmkmepaaa
open Go.RowKit
set_option linter.unusedVariables false

def hiL (L : List Int) : Int := L.foldl (fun m x => if m < x then x else m) (-1)
def refCheck (L : List Int) (n : Int) : Nat :=
  if n < 0 ∨ 4294967294 < n then 8 else if n < hiL L - 64 then 11 else if n ∈ L then 7 else 0
theorem hiL_snoc (L : List Int) (n : Int) : hiL (L ++ [n]) = if hiL L < n then n else hiL L := by unfold hiL; rw [List.foldl_append]; rfl

structure Inv (L : List Int) (t : Bool) (h : Int) (s : BitVec 64) : Prop where
  none_ : t = false → L = [] ∧ s = 0#64
  some_ : t = true → h = hiL L ∧ 0 ≤ h ∧ h < 4294967295 ∧ h ∈ L ∧ (∀ x ∈ L, x ≤ h) ∧ ∀ n : Int, 0 ≤ n → n < h → h - n ≤ 64 → (n ∈ L ↔ s.getLsbD (h - n - 1).toNat = true)
theorem Inv.start : Inv [] false 0 0#64 := ⟨fun _ => ⟨rfl, rfl⟩, fun h => by cases h⟩
theorem Inv.hi {L : List Int} {t : Bool} {h : Int} {s : BitVec 64} (x : Inv L t h s) : (if t then h else -1) = hiL L := by
  cases t with
  | false => rw [(x.none_ rfl).1]; rfl
  | true => exact (x.some_ rfl).1
theorem Inv.bound {L : List Int} {t : Bool} {h : Int} {s : BitVec 64} (x : Inv L t h s) : t = true → 0 ≤ h ∧ h < 4294967295 := fun ht => ⟨(x.some_ ht).2.1, (x.some_ ht).2.2.1⟩
theorem Inv.check {L : List Int} {t : Bool} {h : Int} {s : BitVec 64} (x : Inv L t h s) (n : Int) : winCheck t h s n = refCheck L n := by
  by_cases h1 : n < 0 ∨ 4294967295 ≤ n
  · unfold winCheck refCheck
    rw [if_pos h1, if_pos (show n < 0 ∨ 4294967294 < n by omega)]
  have er : refCheck L n = if n < hiL L - 64 then 11 else if n ∈ L then 7 else 0 := by unfold refCheck; rw [if_neg (show ¬ (n < 0 ∨ 4294967294 < n) by omega)]
  have ew : winCheck t h s n = if t = false ∨ h < n then 0 else if n = h then 7 else if 64 < h - n then 11 else if s.getLsbD (h - n - 1).toNat then 7 else 0 := by unfold winCheck; rw [if_neg h1]
  rw [er, ew]
  cases t with
  | false =>
    obtain ⟨rfl, -⟩ := x.none_ rfl
    rw [if_pos (show false = false ∨ h < n from .inl rfl), if_neg (show ¬ n < hiL [] - 64 by simp [hiL]; omega), if_neg (show n ∉ ([] : List Int) by simp)]
  | true =>
    obtain ⟨e, b0, b1, hm, hle, hbit⟩ := x.some_ rfl
    rw [← e]
    by_cases h2 : h < n
    · rw [if_pos (show true = false ∨ h < n from .inr h2), if_neg (show ¬ n < h - 64 by omega), if_neg (show n ∉ L from fun hn => by have := hle n hn; omega)]
    rw [if_neg (show ¬ (true = false ∨ h < n) by simp; omega)]
    by_cases h3 : n = h
    · rw [if_pos h3, if_neg (show ¬ n < h - 64 by omega), if_pos (show n ∈ L by rw [h3]; exact hm)]
    rw [if_neg h3]
    by_cases h4 : 64 < h - n
    · rw [if_pos h4, if_pos (show n < h - 64 by omega)]
    rw [if_neg h4, if_neg (show ¬ n < h - 64 by omega)]
    have := hbit n (by omega) (by omega) (by omega)
    by_cases h5 : s.getLsbD (h - n - 1).toNat = true
    · rw [if_pos h5, if_pos (this.2 h5)]
    · rw [if_neg h5, if_neg (fun hn => h5 (this.1 hn))]
theorem Inv.mark {L : List Int} {t : Bool} {h : Int} {s : BitVec 64} (x : Inv L t h s) (n : Int) (h0 : refCheck L n = 0) :
    Inv (L ++ [n]) (winMark t h s n).1 (winMark t h s n).2.1 (winMark t h s n).2.2 := by
  have hb : 0 ≤ n ∧ n ≤ 4294967294 ∧ hiL L - 64 ≤ n ∧ n ∉ L := by
    unfold refCheck at h0
    split at h0
    · cases h0
    · split at h0
      · cases h0
      · split at h0
        · cases h0
        · rename_i a b c
          exact ⟨by omega, by omega, by omega, c⟩
  obtain ⟨c0, c1, c2, c3⟩ := hb
  cases t with
  | false =>
    obtain ⟨rfl, rfl⟩ := x.none_ rfl
    refine ⟨fun hf => by simp [winMark] at hf, fun _ => ?_⟩
    simp only [winMark, if_true, List.nil_append]
    refine ⟨by simp [hiL]; omega, c0, by omega, by simp, by simp, fun m hm0 hm1 _ => ?_⟩
    simp; omega
  | true =>
    obtain ⟨e, b0, b1, hm, hle, hbit⟩ := x.some_ rfl
    have hnh : n ≠ h := fun e => c3 (e ▸ hm)
    by_cases hlt : n < h
    · have ew : winMark true h s n = (true, h, s ||| 1#64 <<< (h - n - 1).toNat) := by unfold winMark; rw [if_neg (by simp), if_pos hlt]
      rw [ew]
      dsimp only
      refine ⟨fun hf => by simp at hf, fun _ => ⟨?_, b0, b1, by simp [hm], fun y hy => ?_, fun m hm0 hm1 hm2 => ?_⟩⟩
      · simp only [hiL_snoc]; rw [if_neg (by omega)]; exact e
      · rcases List.mem_append.1 hy with hy | hy
        · exact hle y hy
        · simp at hy; omega
      · simp only [BitVec.getLsbD_or, BitVec.getLsbD_shiftLeft, BitVec.getLsbD_one, Bool.or_eq_true, Bool.and_eq_true, decide_eq_true_eq, List.mem_append, List.mem_singleton, hbit m hm0 hm1 hm2, Bool.not_eq_true', decide_eq_false_iff_not]
        constructor
        · rintro (h | h)
          · exact .inl h
          · right; refine ⟨⟨by omega, by omega⟩, by omega⟩
        · rintro (h | ⟨⟨h1, h2⟩, h3⟩)
          · exact .inl h
          · right; omega
    · have ew : winMark true h s n = (true, n, s <<< (n - h).toNat ||| 1#64 <<< (n - h - 1).toNat) := by unfold winMark; rw [if_neg (by simp), if_neg hlt]
      rw [ew]
      dsimp only
      refine ⟨fun hf => by simp at hf, fun _ => ⟨?_, c0, by omega, by simp, fun y hy => ?_, fun m hm0 hm1 hm2 => ?_⟩⟩
      · simp only [hiL_snoc]; rw [if_pos (by omega)]
      · rcases List.mem_append.1 hy with hy | hy
        · have := hle y hy; omega
        · simp at hy; omega
      · simp only [BitVec.getLsbD_or, BitVec.getLsbD_shiftLeft, BitVec.getLsbD_one, Bool.or_eq_true, Bool.and_eq_true, decide_eq_true_eq, List.mem_append, List.mem_singleton, Bool.not_eq_true', decide_eq_false_iff_not]
        by_cases hmh : m = h
        · subst hmh
          constructor
          · intro _; right; refine ⟨⟨by omega, by omega⟩, by omega⟩
          · intro _; exact .inl hm
        · by_cases hml : m < h
          · have hq := hbit m hm0 hml (by omega)
            have ei : (n - m - 1).toNat - (n - h).toNat = (h - m - 1).toNat := by omega
            rw [ei, hq]
            constructor
            · rintro (h | h)
              · left; exact ⟨⟨by omega, by omega⟩, h⟩
              · omega
            · rintro (⟨_, h⟩ | ⟨⟨h1, h2⟩, h3⟩)
              · exact .inl h
              · omega
          · constructor
            · rintro (h | h)
              · have := hle m h; omega
              · omega
            · rintro (⟨⟨h1, h2⟩, _⟩ | ⟨⟨h1, h2⟩, h3⟩)
              · omega
              · omega
end Go.Proofs.Ytkoefhbmkmepaaa
