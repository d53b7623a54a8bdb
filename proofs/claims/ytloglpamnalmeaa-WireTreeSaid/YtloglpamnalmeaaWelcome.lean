/- CONTRACTS: wire.PutWelcome, burrowref09.PutWelcome. -/
import Derived.Test.YtloglpamnalmeaaPacket
import Derived.Test.YtloglpamnalmeaaRefPacket
namespace Go.Proofs.Ytloglpamnalmeaa
open Go.RowKit
set_option linter.unusedVariables false
set_option linter.unusedSimpArgs false

/-- a welcome's cells -/
def welC (nm : Int) (A1 : Option Addr) (n1 c1 : Nat) (A2 : Option Addr) (n2 c2 : Nat) : List Value := [.int .i64 nm, .slice A1 n1 c1, .slice A2 n2 c2]
def welBad (nm : Int) (n1 n2 : Nat) : Bool := outOf nm 255 || outOf n1 65535 || outOf n2 65535 || decide (65536 < 5 + n1 + n2)
def welBytes (nm : Int) (s1 s2 : List (BitVec 8)) : List (BitVec 8) := be nm 1 ++ (rowB s1 ++ rowB s2)
theorem welBytes_len (nm : Int) (s1 s2 : List (BitVec 8)) : (welBytes nm s1 s2).length = 5 + s1.length + s2.length := by unfold welBytes; rw [List.length_append, List.length_append, be_len, rowB_len, rowB_len]; omega

set_option maxRecDepth 100000 in
set_option maxHeartbeats 2000000 in
theorem putWelcome_any (nm : Int) (A1 : Option Addr) (n1 c1 : Nat) (A2 : Option Addr) (n2 c2 B' : Nat) (s1 s2 : List (BitVec 8)) (w : World) (e1 : -9223372036854775808 ≤ nm) (e2 : nm < 9223372036854775808)
    (hr1 : Rd b8 w B' A1 s1) (hr2 : Rd b8 w B' A2 s2) (hB' : B' ≤ w.heap.size) (hn1 : s1.length = n1) (hn2 : s2.length = n2) (hy1 : n1 ≤ 1000000) (hy2 : n2 ≤ 1000000) :
    Calls Try.prog 19 #[.agg (welC nm A1 n1 c1 A2 n2 c2).toArray] w fun e w' => ∃ v, e = .returned (.tuple #[v, errV (if welBad nm n1 n2 then 3 else 0)]) ∧ Own b8 w' w.heap.size 5 v (if welBad nm n1 n2 then [] else welBytes nm s1 s2) ∧ Below w.heap.size w w' := by
  have HR1 := Lib.hid hr1
  have HN1 := Lib.hid hn1
  have HR2 := Lib.hid hr2
  have HN2 := Lib.hid hn2
  have HF := Lib.hid (show ∀ W1, (w.alloc (.cells (welC nm A1 n1 c1 A2 n2 c2).toArray 41)).alloc (.cells #[.slice none 0 0, .bool false] 112) = W1 →
      Blk W1 w.heap.size 41 (welC nm A1 n1 c1 A2 n2 c2) ∧ Pen W1 (w.heap.size + 1) (w.heap.size + 1) [] false ∧ Below w.heap.size w W1 ∧ W1.heap.size = w.heap.size + 2 by
    rintro W1 rfl
    refine ⟨Blk.alloc (Blk.new w _ _) _, pen_of (v := .slice none 0 0) ?_ (Own.nil_ _ _ _ _) (Nat.le_refl _), ((Below.refl _ _).alloc (Nat.le_refl _) _).alloc (by simp) _, by simp⟩
    exact Blk.at_size _ [.slice none 0 0, .bool false] (by simp))
  obtain ⟨q, hq⟩ : ∃ q, q = welBad nm n1 n2 := ⟨_, rfl⟩
  have HQ := Lib.hid hq
  rw [← hq]
  clear hr1 hn1 hr2 hn2 hq
  rw [show (welC nm A1 n1 c1 A2 n2 c2).toArray = #[.int .i64 nm, .slice A1 n1 c1, .slice A2 n2 c2] from rfl]
  go_enter Try.func19, Try.ntmps19
  go_wp2_with fail
  generalize hW1 : World.alloc (World.alloc w _) _ = W1
  obtain ⟨hbx1, hp1, hb1, hz1⟩ := HF.out W1 hW1
  clear hW1 HF
  have HBx1 := Lib.hid hbx1
  have HP1 := Lib.hid hp1
  have HB1 := Lib.hid hb1
  clear hbx1 hp1 hb1
  refine (number_in HP1.out nm 1 1 rfl 255 e1 e2 (by omega) (by simp)).mono ?_
  rintro e w2 ⟨rfl, hp2, hb2⟩
  have hz2 : W1.heap.size ≤ w2.heap.size := hb2.size
  have HBx2 := Lib.hid (HBx1.out.below hb2 (by omega))
  have HB2 := Lib.hid (HB1.out.trans (hb2.mono (by omega)) : Below w.heap.size w w2)
  have HP2 := Lib.hid hp2
  have cs1 := HBx2.out.cell 1 rfl
  clear hp2 hb2 HBx1 HP1 HB1 e1 e2
  go_wp2_with fail
  refine (row_any HP2.out (HR1.out.below (HB2.out.mono hB')) (by omega) HN1.out (by rw [List.length_append, be_len]; simp) (by omega)).mono ?_
  rintro e w3 ⟨rfl, ⟨zs1, hp3, hzs1, hzl1⟩, hb3⟩
  have hz3 : w2.heap.size ≤ w3.heap.size := hb3.size
  have HBx3 := Lib.hid (HBx2.out.below hb3 (by omega))
  have HB3 := Lib.hid (HB2.out.trans (hb3.mono (by omega)) : Below w.heap.size w w3)
  have HP3 := Lib.hid hp3
  have HZ1 := Lib.hid hzs1
  have cs2 := HBx3.out.cell 2 rfl
  clear hp3 hb3 HBx2 HP2 HB2 hzs1 cs1
  go_wp2_with fail
  refine (row_any HP3.out (HR2.out.below (HB3.out.mono hB')) (by omega) HN2.out (by rw [List.length_append, List.length_append, be_len]; simp; omega) (by omega)).mono ?_
  rintro e w4 ⟨rfl, ⟨zs2, hp4, hzs2, hzl2⟩, hb4⟩
  have HP4 := Lib.hid hp4
  have HZ2 := Lib.hid hzs2
  have HBe := Lib.hid (HB3.out.trans (hb4.mono (by omega)) : Below w.heap.size w w4)
  clear hp4 hb4 hzs2 cs2
  go_wp2_with fail
  have hend := end_any HP4.out
  have hkey : endBad (false || outOf nm 255 || outOf n1 65535 || outOf n2 65535) ([] ++ be nm 1 ++ zs1 ++ zs2) = q ∧ (q = false → [] ++ be nm 1 ++ zs1 ++ zs2 = welBytes nm s1 s2) := by
    have h1 := HZ1.out
    have h2 := HZ2.out
    rw [HQ.out]
    unfold welBad
    rw [Bool.false_or] at h1 h2 ⊢
    cases hx : (outOf nm 255 || outOf n1 65535 || outOf n2 65535) with
    | true => exact ⟨rfl, fun h => by simp at h⟩
    | false =>
      have hx1 := (Bool.or_eq_false_iff.1 hx).1
      obtain rfl := h1 hx1
      obtain rfl := h2 hx
      refine ⟨?_, fun _ => by unfold welBytes; simp only [List.nil_append, List.append_assoc]⟩
      unfold endBad
      simp only [Bool.false_or, List.nil_append, List.length_append, be_len, rowB_len, HN1.out, HN2.out]
      congr 1
      apply propext; constructor <;> intro <;> omega
  rw [hkey.1] at hend
  have Hx := Lib.hid hkey.2
  have HEnd := Lib.hid hend
  clear hend hkey
  cases q with
  | true =>
    refine HEnd.out.mono ?_
    rintro e w5 ⟨⟨v5, rfl, ho5⟩, rfl⟩
    rw [if_pos rfl] at ho5
    have HO5 := Lib.hid ho5
    clear ho5
    go_wp2_with fail
    go_ret2
    exact ⟨_, rfl, HO5.out.less (by omega), HBe.out⟩
  | false =>
    refine HEnd.out.mono ?_
    rintro e w5 ⟨⟨v5, rfl, ho5⟩, rfl⟩
    rw [if_neg (by simp), Hx.out rfl] at ho5
    have HO5 := Lib.hid ho5
    clear ho5
    go_wp2_with fail
    go_ret2
    exact ⟨_, rfl, HO5.out.less (by omega), HBe.out⟩
end Go.Proofs.Ytloglpamnalmeaa
