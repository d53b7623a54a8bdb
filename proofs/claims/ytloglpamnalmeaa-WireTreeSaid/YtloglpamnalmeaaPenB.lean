/- CONTRACTS: the pen of package wire: row, end, seat, group. -/
import Derived.Test.YtloglpamnalmeaaPen
namespace Go.Proofs.Ytloglpamnalmeaa
open Go.RowKit
set_option linter.unusedVariables false
set_option linter.unusedSimpArgs false

/-- out of a range from 0 on -/
def outOf (n most : Int) : Bool := decide (n < 0) || decide (most < n)
theorem numberO_in {w : World} {B g : Nat} {xs : List (BitVec 8)} {bad : Bool} (hP : Pen w B g xs bad) (n : Int) (s : Nat) (si : Int) (hsi : si = (s : Int)) (most : Int) (hn1 : -9223372036854775808 ≤ n) (hn2 : n < 9223372036854775808) (hs : s ≤ 8) (hx : xs.length ≤ 1000000000) :
    Calls Try.prog 50 #[.pointer (some ⟨g, 0, none⟩), .int .i64 n, .int .i64 si, .int .i64 most] w fun e w' => e = .returned (.tuple #[]) ∧ Pen w' B g (xs ++ be n s) (bad || outOf n most) ∧ Below B w w' ∧ Oth w w' := by
  subst hsi
  exact numberO_any hP n s most hn1 hn2 hs hx
theorem number_in {w : World} {B g : Nat} {xs : List (BitVec 8)} {bad : Bool} (hP : Pen w B g xs bad) (n : Int) (s : Nat) (si : Int) (hsi : si = (s : Int)) (most : Int) (hn1 : -9223372036854775808 ≤ n) (hn2 : n < 9223372036854775808) (hs : s ≤ 8) (hx : xs.length ≤ 1000000000) :
    Calls Try.prog 50 #[.pointer (some ⟨g, 0, none⟩), .int .i64 n, .int .i64 si, .int .i64 most] w fun e w' => e = .returned (.tuple #[]) ∧ Pen w' B g (xs ++ be n s) (bad || outOf n most) ∧ Below B w w' :=
  (numberO_in hP n s si hsi most hn1 hn2 hs hx).mono fun _ _ h => ⟨h.1, h.2.1, h.2.2.1⟩

set_option maxRecDepth 100000 in
theorem seatO_any {w : World} {B g : Nat} {xs : List (BitVec 8)} {bad : Bool} (hP : Pen w B g xs bad) (n : Int) (hn1 : -9223372036854775808 ≤ n) (hn2 : n < 9223372036854775808) (hx : xs.length ≤ 1000000000) :
    Calls Try.prog 74 #[.pointer (some ⟨g, 0, none⟩), .int .i64 n] w fun e w' => e = .returned (.tuple #[]) ∧ Pen w' B g (xs ++ be n 1) (bad || outOf n 31) ∧ Below B w w' ∧ Oth w w' := by
  have HP := Lib.hid hP
  clear hP
  go_enter Try.func74, Try.ntmps74
  go_wp2_with fail
  refine (numberO_in HP.out n 1 1 rfl 31 hn1 hn2 (by omega) hx).mono ?_
  rintro e w1 ⟨rfl, hp1, hb1, ho1⟩
  have HO1 := Lib.hid ho1
  clear ho1
  go_wp2
  go_end0
  exact ⟨rfl, hp1, hb1, HO1.out⟩
theorem seat_any {w : World} {B g : Nat} {xs : List (BitVec 8)} {bad : Bool} (hP : Pen w B g xs bad) (n : Int) (hn1 : -9223372036854775808 ≤ n) (hn2 : n < 9223372036854775808) (hx : xs.length ≤ 1000000000) :
    Calls Try.prog 74 #[.pointer (some ⟨g, 0, none⟩), .int .i64 n] w fun e w' => e = .returned (.tuple #[]) ∧ Pen w' B g (xs ++ be n 1) (bad || outOf n 31) ∧ Below B w w' :=
  (seatO_any hP n hn1 hn2 hx).mono fun _ _ h => ⟨h.1, h.2.1, h.2.2.1⟩

/-- a row: its length, its bytes -/
def rowB (ys : List (BitVec 8)) : List (BitVec 8) := be (ys.length : Int) 2 ++ ys
set_option maxRecDepth 100000 in
set_option maxHeartbeats 1000000 in
theorem rowO_any {w : World} {B g : Nat} {xs : List (BitVec 8)} {bad : Bool} (hP : Pen w B g xs bad) {B' : Nat} {A : Option Addr} {n c : Nat} {ys : List (BitVec 8)} (hr : Rd b8 w B' A ys) (hB' : B' ≤ B) (hn : ys.length = n) (hx : xs.length ≤ 100000000) (hy : n ≤ 100000000) :
    Calls Try.prog 51 #[.pointer (some ⟨g, 0, none⟩), .slice A n c] w fun e w' => e = .returned (.tuple #[]) ∧ (∃ zs, Pen w' B g (xs ++ zs) (bad || outOf n 65535) ∧ ((bad || outOf n 65535) = false → zs = rowB ys) ∧ zs.length ≤ 2 + n) ∧ Below B w w' ∧ Oth w w' := by
  have HP := Lib.hid hP
  have HR := Lib.hid hr
  have HN := Lib.hid hn
  obtain ⟨b', hb'⟩ : ∃ b', b' = (bad || outOf n 65535) := ⟨_, rfl⟩
  have hnum := numberO_in hP (n : Int) 2 2 rfl 65535 (by omega) (by omega) (by omega) (by omega)
  rw [← hb'] at hnum ⊢
  have HNum := Lib.hid hnum
  have hsz := hP.size
  clear hP hr hn hb' hnum
  go_enter Try.func51, Try.ntmps51
  go_wp2_with fail
  refine HNum.out.mono ?_
  rintro e w1 ⟨rfl, hp1, hb1, ho1⟩
  have HO1 := Lib.hid ho1
  clear ho1
  have HP1 := Lib.hid hp1
  have HB1 := Lib.hid hb1
  obtain ⟨v, h1, h2⟩ := hp1.at_
  have c1 := h1.cell 1 rfl
  clear h1 h2 hp1 hb1
  cases b' with
  | true =>
    go_wp2_with fail
    go_end0
    exact ⟨rfl, ⟨be n 2, HP1.out, (fun h => (by cases h)), by rw [be_len]; omega⟩, HB1.out, HO1.out⟩
  | false =>
    go_wp2_with fail
    refine (bytesO_any HP1.out (HR.out.below (HB1.out.mono hB')) (by have := HB1.out.size; omega) HN.out (by rw [List.length_append, be_len]; omega) (by omega)).mono ?_
    rintro e w2 ⟨rfl, hp2, hb2, ho2⟩
    have HO2 := Lib.hid ho2
    clear ho2
    go_wp2
    go_end0
    refine ⟨rfl, ⟨rowB ys, hp2.cast (by unfold rowB; rw [HN.out, List.append_assoc]) rfl, (by first | exact fun _ => rfl | rfl), by unfold rowB; rw [List.length_append, be_len, HN.out]; omega⟩, HB1.out.trans hb2, HO1.out.trans HO2.out⟩
theorem row_any {w : World} {B g : Nat} {xs : List (BitVec 8)} {bad : Bool} (hP : Pen w B g xs bad) {B' : Nat} {A : Option Addr} {n c : Nat} {ys : List (BitVec 8)} (hr : Rd b8 w B' A ys) (hB' : B' ≤ B) (hn : ys.length = n) (hx : xs.length ≤ 100000000) (hy : n ≤ 100000000) :
    Calls Try.prog 51 #[.pointer (some ⟨g, 0, none⟩), .slice A n c] w fun e w' => e = .returned (.tuple #[]) ∧ (∃ zs, Pen w' B g (xs ++ zs) (bad || outOf n 65535) ∧ ((bad || outOf n 65535) = false → zs = rowB ys) ∧ zs.length ≤ 2 + n) ∧ Below B w w' :=
  (rowO_any hP hr hB' hn hx hy).mono fun _ _ h => ⟨h.1, h.2.1, h.2.2.1⟩

def endBad (bad : Bool) (xs : List (BitVec 8)) : Bool := bad || decide (65536 < xs.length)
set_option maxRecDepth 100000 in
theorem end_any {w : World} {B g : Nat} {xs : List (BitVec 8)} {bad : Bool} (hP : Pen w B g xs bad) :
    Calls Try.prog 52 #[.pointer (some ⟨g, 0, none⟩)] w fun e w' => (∃ v, e = .returned (.tuple #[v, errV (if endBad bad xs then 3 else 0)]) ∧ Own b8 w' B 5 v (if endBad bad xs then [] else xs)) ∧ w = w' := by
  obtain ⟨v, h1, h2⟩ := hP.at_
  obtain ⟨A, c, rfl, hr, -, -, -⟩ := h2.shape
  have H2 := Lib.hid h2
  have c0 := h1.cell 0 rfl
  have c1 := h1.cell 1 rfl
  clear hP h1 h2 hr
  cases bad with
  | true =>
    have e1 : endBad true xs = true := rfl
    rw [e1, if_pos rfl, if_pos rfl, errV_pos (by simp)]
    clear e1
    go_enter Try.func52, Try.ntmps52
    go_wp2
    go_ret2
    exact ⟨⟨_, rfl, Own.nil_ _ _ _ _⟩, rfl⟩
  | false =>
    by_cases hl : 65536 < xs.length
    · have e1 : endBad false xs = true := by simp [endBad, hl]
      have hl' : (65536 : Int) < (xs.length : Int) := by omega
      rw [e1, if_pos rfl, if_pos rfl, errV_pos (by simp)]
      clear e1 hl
      go_enter Try.func52, Try.ntmps52
      go_wp2
      go_ret2
      exact ⟨⟨_, rfl, Own.nil_ _ _ _ _⟩, rfl⟩
    · have e1 : endBad false xs = false := by simp [endBad, hl]
      have hl' : ((65536 : Int) < (xs.length : Int)) = False := by simp; omega
      rw [e1, if_neg (by simp), if_neg (by simp), errV_zero]
      clear e1 hl
      go_enter Try.func52, Try.ntmps52
      go_wp2
      go_ret2
      exact ⟨⟨_, rfl, H2.out⟩, rfl⟩

/-- a group, an epoch, a leaf's number -/
def groupB (sum : List (BitVec 8)) (epoch frm : Int) : List (BitVec 8) := sum ++ (be epoch 4 ++ be frm 1)
set_option maxRecDepth 100000 in
set_option maxHeartbeats 1000000 in
theorem groupO_any {w : World} {B g : Nat} {xs : List (BitVec 8)} {bad : Bool} (hP : Pen w B g xs bad) (sum : List (BitVec 8)) (epoch frm : Int) (hs : sum.length = 32) (e1 : -9223372036854775808 ≤ epoch) (e2 : epoch < 9223372036854775808) (f1 : -9223372036854775808 ≤ frm) (f2 : frm < 9223372036854775808) (hx : xs.length ≤ 100000000) :
    Calls Try.prog 49 #[.pointer (some ⟨g, 0, none⟩), arrV b8 sum, .int .i64 epoch, .int .i64 frm] w fun e w' => e = .returned (.tuple #[]) ∧ Pen w' B g (xs ++ groupB sum epoch frm) (bad || outOf epoch 4294967295 || outOf frm 31) ∧ Below B w w' ∧ Oth w w' := by
  have HP := Lib.hid (hP.alloc (.cells (sum.map b8).toArray 23))
  have HS := Lib.hid hs
  have HA := Lib.hid (Rd.new b8 w 23 sum)
  have HB := Lib.hid ((Below.refl B w).alloc hP.size (.cells (sum.map b8).toArray 23))
  have HO0 := Lib.hid ((Oth.refl w).alloc (.cells (sum.map b8).toArray 23))
  clear hP hs
  rw [arrV_mk]
  go_enter Try.func49, Try.ntmps49
  go_wp2_with fail
  refine (bytesO_any HP.out HA.out (by simp) HS.out (by omega) (by omega)).mono ?_
  rintro e w1 ⟨rfl, hp1, hb1, ho1⟩
  have HO1 := Lib.hid ho1
  clear ho1
  have HP1 := Lib.hid hp1
  have HB1 := Lib.hid hb1
  clear hp1 hb1
  go_wp2_with fail
  refine (numberO_in HP1.out epoch 4 4 rfl 4294967295 e1 e2 (by omega) (by rw [List.length_append, HS.out]; omega)).mono ?_
  rintro e w2 ⟨rfl, hp2, hb2, ho2⟩
  have HO2 := Lib.hid ho2
  clear ho2
  have HP2 := Lib.hid hp2
  have HB2 := Lib.hid hb2
  clear hp2 hb2
  go_wp2_with fail
  refine (seatO_any HP2.out frm f1 f2 (by rw [List.length_append, List.length_append, be_len, HS.out]; omega)).mono ?_
  rintro e w3 ⟨rfl, hp3, hb3, ho3⟩
  have HO3 := Lib.hid ho3
  clear ho3
  go_wp2
  go_end0
  exact ⟨rfl, hp3.cast (by unfold groupB; simp only [List.append_assoc]) rfl, ((HB.out.trans HB1.out).trans HB2.out).trans hb3, ((HO0.out.trans HO1.out).trans HO2.out).trans HO3.out⟩
theorem group_any {w : World} {B g : Nat} {xs : List (BitVec 8)} {bad : Bool} (hP : Pen w B g xs bad) (sum : List (BitVec 8)) (epoch frm : Int) (hs : sum.length = 32) (e1 : -9223372036854775808 ≤ epoch) (e2 : epoch < 9223372036854775808) (f1 : -9223372036854775808 ≤ frm) (f2 : frm < 9223372036854775808) (hx : xs.length ≤ 100000000) :
    Calls Try.prog 49 #[.pointer (some ⟨g, 0, none⟩), arrV b8 sum, .int .i64 epoch, .int .i64 frm] w fun e w' => e = .returned (.tuple #[]) ∧ Pen w' B g (xs ++ groupB sum epoch frm) (bad || outOf epoch 4294967295 || outOf frm 31) ∧ Below B w w' :=
  (groupO_any hP sum epoch frm hs e1 e2 f1 f2 hx).mono fun _ _ h => ⟨h.1, h.2.1, h.2.2.1⟩
end Go.Proofs.Ytloglpamnalmeaa
