/- Rows, steps and paths in memory. CONTRACTS: wire.row for every length, wire.list[[]byte]. -/
import Derived.Test.YtloglpamnalmeaaPropD
namespace Go.Proofs.Ytloglpamnalmeaa
open Go.RowKit
set_option linter.unusedVariables false
set_option linter.unusedSimpArgs false

/-- a row of bytes in memory: what it says, where it lies -/
structure RowT where
  xs : List (BitVec 8)
  A : Option Addr
  c : Nat
def RowT.cell (r : RowT) : Value := .slice r.A r.xs.length r.c
def RowT.cells (r : RowT) : List Value := [r.cell]
structure RdR (w : World) (B : Nat) (A : Option Addr) (rs : List RowT) : Prop where
  row : RdV w B A (rs.flatMap RowT.cells)
  xs : ∀ r ∈ rs, Rd b8 w B r.A r.xs ∧ r.xs.length ≤ 9223372036854775807
theorem RdR.below {w w' : World} {B : Nat} {A : Option Addr} {rs : List RowT} (h : RdR w B A rs) (hb : Below B w w') : RdR w' B A rs := ⟨h.row.below hb, fun r hr => ⟨(h.xs r hr).1.below hb, (h.xs r hr).2⟩⟩
theorem RdR.elem {w : World} {B : Nat} {A : Option Addr} {rs : List RowT} (h : RdR w B A rs) {k : Nat} {r : RowT} (hk : rs[k]? = some r) : ∃ b off, A = some ⟨b, off, none⟩ ∧ b < B ∧ w.cell? ⟨b, off + k, none⟩ = some r.cell := by
  obtain ⟨b, off, e, hb, hc⟩ := RdV.elem (K := 1) h.row (fun _ _ => rfl) (by omega) hk
  exact ⟨b, off, e, hb, by have := hc 0 r.cell rfl; rwa [Nat.one_mul, Nat.add_zero] at this⟩
def rowsB (rs : List RowT) : List (BitVec 8) := rs.flatMap fun r => rowB r.xs
def rowsBad (rs : List RowT) : Bool := rs.any fun r => outOf (r.xs.length : Int) 65535
theorem rowsB_succ (rs : List RowT) (k : Nat) (r : RowT) (h : rs[k]? = some r) : rowsB (rs.take (k + 1)) = rowsB (rs.take k) ++ rowB r.xs := by
  unfold rowsB; rw [List.take_add_one, List.flatMap_append, h]; simp
theorem rowsBad_succ (rs : List RowT) (k : Nat) (r : RowT) (h : rs[k]? = some r) : rowsBad (rs.take (k + 1)) = (rowsBad (rs.take k) || outOf (r.xs.length : Int) 65535) := by
  unfold rowsBad; rw [List.take_add_one, List.any_append, h]; simp
theorem rowsBad_take (rs : List RowT) (k : Nat) (h : rowsBad (rs.take k) = true) : rowsBad rs = true := by
  unfold rowsBad at *; rw [List.any_eq_true] at *
  obtain ⟨x, hx, h⟩ := h
  exact ⟨x, List.mem_of_mem_take hx, h⟩

set_option maxRecDepth 100000 in
set_option maxHeartbeats 1000000 in
theorem rowG_any {w : World} {B g : Nat} {xs : List (BitVec 8)} {bad : Bool} (hP : Pen w B g xs bad) {B' : Nat} {A : Option Addr} {n c : Nat} {ys : List (BitVec 8)} (hr : Rd b8 w B' A ys) (hB' : B' ≤ B) (hn : ys.length = n) (hx : xs.length ≤ 100000000) (hy : n ≤ 9223372036854775807) :
    Calls Try.prog 51 #[.pointer (some ⟨g, 0, none⟩), .slice A n c] w fun e w' => e = .returned (.tuple #[]) ∧ (∃ zs, Pen w' B g (xs ++ zs) (bad || outOf n 65535) ∧ ((bad || outOf n 65535) = false → zs = rowB ys) ∧ zs.length ≤ 65537) ∧ Below B w w' ∧ Oth w w' := by
  have HP := Lib.hid hP
  have HR := Lib.hid hr
  have HN := Lib.hid hn
  obtain ⟨b', hb'⟩ : ∃ b', b' = (bad || outOf n 65535) := ⟨_, rfl⟩
  have HS := Lib.hid (show b' = false → n ≤ 65535 from fun h => by rw [h] at hb'; have h2 := (Bool.or_eq_false_iff.1 hb'.symm).2; obtain ⟨N, hN, hNl⟩ := outOf_nat h2; omega)
  have hnum := numberO_in hP (n : Int) 2 2 rfl 65535 (by omega) (by omega) (by omega) (by omega)
  rw [← hb'] at hnum ⊢
  have HNum := Lib.hid hnum
  have hsz := hP.size
  clear hP hr hn hb' hnum
  go_enter Try.func51, Try.ntmps51
  go_wp2_with fail
  refine HNum.out.mono ?_
  rintro e w1 ⟨rfl, hp1, hb1, ho1⟩
  have HO1 := Lib.hid ho1
  clear ho1
  have HP1 := Lib.hid hp1
  have HB1 := Lib.hid hb1
  obtain ⟨v, h1, h2⟩ := hp1.at_
  have c1 := h1.cell 1 rfl
  clear h1 h2 hp1 hb1
  cases b' with
  | true =>
    go_wp2_with fail
    go_end0
    exact ⟨rfl, ⟨be n 2, HP1.out, (fun h => (by cases h)), by rw [be_len]; omega⟩, HB1.out, HO1.out⟩
  | false =>
    have hs := HS.out rfl
    go_wp2_with fail
    refine (bytesO_any HP1.out (HR.out.below (HB1.out.mono hB')) (by have := HB1.out.size; omega) HN.out (by rw [List.length_append, be_len]; omega) (by omega)).mono ?_
    rintro e w2 ⟨rfl, hp2, hb2, ho2⟩
    have HO2 := Lib.hid ho2
    clear ho2
    go_wp2
    go_end0
    refine ⟨rfl, ⟨rowB ys, hp2.cast (by unfold rowB; rw [HN.out, List.append_assoc]) rfl, (by first | exact fun _ => rfl | rfl), by unfold rowB; rw [List.length_append, be_len, HN.out]; omega⟩, HB1.out.trans hb2, HO1.out.trans HO2.out⟩

set_option maxRecDepth 100000 in
set_option maxHeartbeats 2000000 in
theorem listRow_any {w : World} {B g : Nat} {xs : List (BitVec 8)} {bad : Bool} (hP : Pen w B g xs bad) {B' : Nat} {A : Option Addr} {n c : Nat} {rs : List RowT} (hr : RdR w B' A rs) (hB' : B' ≤ B) (hn : rs.length = n) (hy : n ≤ 9223372036854775807) (hx : xs.length ≤ 80000000) :
    Calls Try.prog 116 #[.pointer (some ⟨g, 0, none⟩), .slice A n c, .int .i64 255, .func (.func 51) #[] #[]] w fun e w' => e = .returned (.tuple #[]) ∧ (∃ ys, Pen w' B g (xs ++ ys) (bad || outOf n 255 || rowsBad rs) ∧ ((bad || outOf n 255 || rowsBad rs) = false → ys = be n 1 ++ rowsB rs) ∧ ys.length ≤ 16711936) ∧ Below B w w' ∧ Oth w w' := by
  have HP := Lib.hid hP
  have HR := Lib.hid hr
  have HN := Lib.hid hn
  obtain ⟨b1, hb1⟩ : ∃ b1, b1 = (bad || outOf n 255) := ⟨_, rfl⟩
  have HS := Lib.hid (show b1 = false → n ≤ 255 from fun h => by rw [h] at hb1; have h2 := (Bool.or_eq_false_iff.1 hb1.symm).2; obtain ⟨N, hN, hNl⟩ := outOf_nat h2; omega)
  have hnum := numberO_in hP (n : Int) 1 1 rfl 255 (by omega) (by omega) (by omega) (by omega)
  rw [← hb1] at hnum ⊢
  have HNum := Lib.hid hnum
  have hsz := hP.size
  clear hP hr hn hb1 hnum
  go_enter Try.func116, Try.ntmps116
  go_wp2_with fail
  refine HNum.out.mono ?_
  rintro e w1 ⟨rfl, hp1, hb1, ho1⟩
  have HP1 := Lib.hid hp1
  have HB1 := Lib.hid hb1
  have HO1 := Lib.hid ho1
  clear hp1 hb1 ho1
  go_wp2_with fail
  go_loopw [9, 17] (fun pv iv wr => ∃ (k : Nat) (ys : List (BitVec 8)), k ≤ n ∧ iv = .int .i64 (k : Int) ∧ (b1 = true → k = 0) ∧ Pen wr B g (xs ++ ys) (b1 || rowsBad (rs.take k)) ∧ ((b1 || rowsBad (rs.take k)) = false → ys = be n 1 ++ rowsB (rs.take k)) ∧ ys.length ≤ 1 + k * 65537 ∧ Below B w wr ∧ Oth w wr) (fun _ iv _ => n - (intOf iv).toNat)
  case atStart => exact ⟨0, be n 1, by omega, rfl, fun _ => rfl, HP1.out.cast rfl (by simp [rowsBad]), fun _ => by simp [rowsB], by rw [be_len]; omega, HB1.out, HO1.out⟩
  case round =>
    obtain ⟨k, ys, hk, rfl, hk0, hp, hys, hyl, hb, ho⟩ := hrel
    have HPk := Lib.hid hp
    have HB := Lib.hid hb
    have HOr := Lib.hid ho
    have HYs := Lib.hid hys
    have hk255 : k ≤ 255 := by
      cases hbb : b1 with
      | true => have := hk0 hbb; omega
      | false => have := HS.out hbb; omega
    have HK0 := Lib.hid hk0
    clear ho hys hk0
    by_cases hlt : k < n
    · have hlt' : (k : Int) < (n : Int) := by omega
      obtain ⟨t, ht⟩ : ∃ t, rs[k]? = some t := ⟨rs[k]'(by rw [HN.out]; omega), List.getElem?_eq_getElem _⟩
      obtain ⟨b, off, e1, hbb, hc1⟩ := (HR.out.below (hb.mono hB')).elem ht
      subst e1
      have HT := Lib.hid ht
      have d1 : wr.cell? ⟨b, off + k, none⟩ = some (.slice t.A t.xs.length t.c) := hc1
      have hmem := List.mem_of_getElem? ht
      have HXs := Lib.hid ((HR.out.xs t hmem).1.below (hb.mono hB'))
      have hxl := (HR.out.xs t hmem).2
      obtain ⟨q, hq⟩ : ∃ q, q = (b1 || rowsBad (rs.take k)) := ⟨_, rfl⟩
      rw [← hq] at hp HPk HYs
      have HPq := Lib.hid hp
      have HQ := Lib.hid hq
      obtain ⟨v, h1, h2⟩ := hp.at_
      have c1 := h1.cell 1 rfl
      clear h1 h2 hp hb hc1 ht hmem hq
      cases q with
      | true =>
        go_wp2_with fail
        refine bodyPost_ret (results_none rfl _ _ _) rfl ?_
        refine ⟨rfl, ⟨ys, HPk.out.cast rfl ?_, ?_, ?_⟩, HB.out, HOr.out⟩
        · have h := HQ.out
          cases b1 with
          | true => simp
          | false => simp only [Bool.false_or] at h; rw [rowsBad_take rs k h.symm]; rfl
        · intro h
          have h2 := HQ.out
          cases b1 with
          | true => simp at h
          | false => simp only [Bool.false_or] at h h2; rw [rowsBad_take rs k h2.symm] at h; cases h
        · omega
      | false =>
        go_wp2_with fail
        refine (rowG_any HPq.out HXs.out hB' rfl (by rw [List.length_append]; omega) hxl).mono ?_
        rintro e w3 ⟨rfl, ⟨zs, hp3, hz3, hl3⟩, hb3, ho3⟩
        have HP3 := Lib.hid hp3
        have HB3 := Lib.hid (HB.out.trans hb3)
        have HO3 := Lib.hid (HOr.out.trans ho3)
        have HZ3 := Lib.hid hz3
        clear hp3 hb3 ho3 hz3
        go_wp2_with fail
        have hb1f : b1 = false := (Bool.or_eq_false_iff.1 HQ.out.symm).1
        have e2 : (b1 || rowsBad (rs.take (k + 1))) = (false || outOf (t.xs.length : Int) 65535) := by rw [rowsBad_succ rs k t HT.out, ← Bool.or_assoc, ← HQ.out]
        refine ⟨⟨k + 1, ys ++ zs, by omega, by congr 1, (fun h => by rw [hb1f] at h; cases h), HP3.out.cast (by rw [List.append_assoc]) e2.symm, ?_, by rw [List.length_append]; omega, HB3.out, HO3.out⟩, by show n - ((k : Int) + 1).toNat < n - (k : Int).toNat; omega⟩
        intro h
        rw [e2] at h
        rw [rowsB_succ rs k t HT.out, HYs.out (by first | rfl | trivial), HZ3.out h, List.append_assoc]
    · obtain rfl : k = n := by omega
      clear hp hb
      go_wp2_with fail
      go_end0
      have e1 : rs.take k = rs := List.take_of_length_le (by rw [HN.out]; omega)
      have h := HPk.out
      have h2 := HYs.out
      rw [e1] at h h2
      exact ⟨rfl, ⟨ys, h, h2, by omega⟩, HB.out, HOr.out⟩
end Go.Proofs.Ytloglpamnalmeaa
