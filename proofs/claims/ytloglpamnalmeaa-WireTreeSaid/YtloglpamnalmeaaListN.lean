/- CONTRACT: wire.list[int] with wire.seat. -/
import Derived.Test.YtloglpamnalmeaaPenB
import Derived.Test.YtloglpamnalmeaaNode
namespace Go.Proofs.Ytloglpamnalmeaa
open Go.RowKit
set_option linter.unusedVariables false
set_option linter.unusedSimpArgs false

/-- the bytes of numbers, one each -/
def onesB (l : List Int) : List (BitVec 8) := l.flatMap (be · 1)
theorem onesB_len (l : List Int) : (onesB l).length = l.length := by
  unfold onesB
  induction l with
  | nil => rfl
  | cons z l ih => rw [List.flatMap_cons, List.length_append, be_len, ih, List.length_cons]; omega
theorem onesB_succ (l : List Int) (k : Nat) (z : Int) (h : l[k]? = some z) : onesB (l.take (k + 1)) = onesB (l.take k) ++ be z 1 := by
  unfold onesB; rw [List.take_add_one, List.flatMap_append, h]; simp
def out31 (l : List Int) : Bool := l.any (outOf · 31)
theorem out31_succ (l : List Int) (k : Nat) (z : Int) (h : l[k]? = some z) : out31 (l.take (k + 1)) = (out31 (l.take k) || outOf z 31) := by
  unfold out31; rw [List.take_add_one, List.any_append, h]; simp
theorem out31_take (l : List Int) (k : Nat) (h : out31 (l.take k) = true) : out31 l = true := by
  unfold out31 at *; rw [List.any_eq_true] at *
  obtain ⟨x, hx, h⟩ := h
  exact ⟨x, List.mem_of_mem_take hx, h⟩

set_option maxRecDepth 100000 in
set_option maxHeartbeats 1000000 in
theorem listNO_any {w : World} {B g : Nat} {xs : List (BitVec 8)} {bad : Bool} (hP : Pen w B g xs bad) {B' : Nat} {A : Option Addr} {n c : Nat} {l : List Int} (hr : Rd cI w B' A l) (hB' : B' ≤ B) (hn : l.length = n) (hy : n ≤ 1000000) (hi : ∀ z ∈ l, -9223372036854775808 ≤ z ∧ z < 9223372036854775808) (hx : xs.length ≤ 100000000) :
    Calls Try.prog 103 #[.pointer (some ⟨g, 0, none⟩), .slice A n c, .int .i64 32, .func (.func 74) #[] #[]] w fun e w' => e = .returned (.tuple #[]) ∧ (∃ ys, Pen w' B g (xs ++ ys) (bad || outOf n 32 || out31 l) ∧ ((bad || outOf n 32 || out31 l) = false → ys = be n 1 ++ onesB l) ∧ ys.length ≤ 1 + n) ∧ Below B w w' ∧ Oth w w' := by
  have HP := Lib.hid hP
  have HR := Lib.hid hr
  have HN := Lib.hid hn
  have HI := Lib.hid hi
  obtain ⟨b1, hb1⟩ : ∃ b1, b1 = (bad || outOf n 32) := ⟨_, rfl⟩
  have hnum := numberO_in hP (n : Int) 1 1 rfl 32 (by omega) (by omega) (by omega) (by omega)
  rw [← hb1] at hnum ⊢
  have HNum := Lib.hid hnum
  have hsz := hP.size
  clear hP hr hn hb1 hnum hi
  go_enter Try.func103, Try.ntmps103
  go_wp2_with fail
  refine HNum.out.mono ?_
  rintro e w1 ⟨rfl, hp1, hb1, ho1⟩
  have HO1 := Lib.hid ho1
  clear ho1
  have HP1 := Lib.hid hp1
  have HB1 := Lib.hid hb1
  clear hp1 hb1
  go_wp2_with fail
  go_loopw [9, 17] (fun xv iv wr => ∃ k : Nat, k ≤ n ∧ iv = .int .i64 (k : Int) ∧ Pen wr B g (xs ++ (be n 1 ++ onesB (l.take k))) (b1 || out31 (l.take k)) ∧ Below B w wr ∧ Oth w wr) (fun _ iv _ => n - (intOf iv).toNat)
  case atStart => exact ⟨0, by omega, rfl, HP1.out.cast (by simp [onesB]) (by simp [out31]), HB1.out, HO1.out⟩
  case round =>
    obtain ⟨k, hk, rfl, hp, hb, ho⟩ := hrel
    have HOr := Lib.hid ho
    clear ho
    have HPk := Lib.hid hp
    have HB := Lib.hid hb
    by_cases hlt : k < n
    · have hlt' : (k : Int) < (n : Int) := by omega
      obtain ⟨b, off, e1, hbb, hc1⟩ := (HR.out.below (hb.mono hB')).at_ (k := k) (by rw [HN.out]; omega)
      subst e1
      obtain ⟨z, hz⟩ : ∃ z, z = l[k]'(by rw [HN.out]; omega) := ⟨_, rfl⟩
      rw [← hz] at hc1
      have d1 : wr.cell? ⟨b, off + k, none⟩ = some (.int .i64 z) := hc1
      have hzk : l[k]? = some z := by rw [hz]; exact List.getElem?_eq_getElem _
      have HZ := Lib.hid hzk
      have hzi := HI.out z (List.mem_of_getElem? hzk)
      obtain ⟨q, hq⟩ : ∃ q, q = (b1 || out31 (l.take k)) := ⟨_, rfl⟩
      rw [← hq] at hp
      have HPq := Lib.hid hp
      have HQ := Lib.hid hq
      obtain ⟨v, h1, h2⟩ := hp.at_
      have c1 := h1.cell 1 rfl
      clear h1 h2 hp hb hc1 hz hzk hq
      cases q with
      | true =>
        go_wp2_with fail
        refine bodyPost_ret (results_none rfl _ _ _) rfl ?_
        refine ⟨rfl, ⟨be n 1 ++ onesB (l.take k), HPk.out.cast rfl ?_, ?_, by rw [List.length_append, be_len, onesB_len, List.length_take]; omega⟩, HB.out, HOr.out⟩
        · have h := HQ.out
          cases b1 with
          | true => simp
          | false => simp only [Bool.false_or] at h; rw [out31_take l k h.symm, h.symm]
        · intro h
          have h2 := HQ.out
          cases b1 with
          | true => simp at h
          | false => simp only [Bool.false_or] at h h2; rw [out31_take l k h2.symm] at h; cases h

      | false =>
        go_wp2_with fail
        refine (seatO_any HPq.out z hzi.1 hzi.2 (by rw [List.length_append, List.length_append, be_len, onesB_len, List.length_take]; omega)).mono ?_
        rintro e w2 ⟨rfl, hp2, hb2, ho2⟩
        have HO2 := Lib.hid ho2
        clear ho2
        have HP2 := Lib.hid hp2
        have HB2 := Lib.hid hb2
        clear hp2 hb2
        go_wp2_with fail
        refine ⟨⟨k + 1, by omega, by congr 1, ?_, HB.out.trans HB2.out, HOr.out.trans HO2.out⟩, by show n - ((k : Int) + 1).toNat < n - (k : Int).toNat; omega⟩
        refine HP2.out.cast ?_ ?_
        · rw [onesB_succ l k z HZ.out]; simp [List.append_assoc]
        · rw [out31_succ l k z HZ.out, ← Bool.or_assoc, ← HQ.out]

    · obtain rfl : k = n := by omega
      clear hp hb
      go_wp2_with fail
      go_end0
      have e1 : l.take k = l := List.take_of_length_le (by rw [HN.out]; omega)
      have h := HPk.out
      rw [e1] at h
      exact ⟨rfl, ⟨be k 1 ++ onesB l, h, fun _ => rfl, by rw [List.length_append, be_len, onesB_len, HN.out]; omega⟩, HB.out, HOr.out⟩
theorem listN_any {w : World} {B g : Nat} {xs : List (BitVec 8)} {bad : Bool} (hP : Pen w B g xs bad) {B' : Nat} {A : Option Addr} {n c : Nat} {l : List Int} (hr : Rd cI w B' A l) (hB' : B' ≤ B) (hn : l.length = n) (hy : n ≤ 1000000) (hi : ∀ z ∈ l, -9223372036854775808 ≤ z ∧ z < 9223372036854775808) (hx : xs.length ≤ 100000000) :
    Calls Try.prog 103 #[.pointer (some ⟨g, 0, none⟩), .slice A n c, .int .i64 32, .func (.func 74) #[] #[]] w fun e w' => e = .returned (.tuple #[]) ∧ (∃ ys, Pen w' B g (xs ++ ys) (bad || outOf n 32 || out31 l) ∧ ((bad || outOf n 32 || out31 l) = false → ys = be n 1 ++ onesB l) ∧ ys.length ≤ 1 + n) ∧ Below B w w' :=
  (listNO_any hP hr hB' hn hy hi hx).mono fun _ _ h => ⟨h.1, h.2.1, h.2.2.1⟩
end Go.Proofs.Ytloglpamnalmeaa
