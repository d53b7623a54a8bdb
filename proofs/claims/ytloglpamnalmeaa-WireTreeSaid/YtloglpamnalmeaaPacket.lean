/- CONTRACTS: wire.PutPacket, burrowref09.PutPacket. -/
import Derived.Test.YtloglpamnalmeaaRefN
namespace Go.Proofs.Ytloglpamnalmeaa
open Go.RowKit
set_option linter.unusedVariables false
set_option linter.unusedSimpArgs false

/-- a packet's cells -/
def packetC (sum : List (BitVec 8)) (epoch frm number : Int) (A : Option Addr) (n c : Nat) : List Value := sum.map b8 ++ [.int .i64 epoch, .int .i64 frm, .int .i64 number, .slice A n c]
section
variable {w : World} {g : Nat} {sum : List (BitVec 8)} {epoch frm number : Int} {A : Option Addr} {n c : Nat}
def PkBox (w : World) (g : Nat) (sum : List (BitVec 8)) (epoch frm number : Int) (A : Option Addr) (n c : Nat) : Prop := Blk w g 26 (packetC sum epoch frm number A n c)
theorem PkBox.below {w' : World} {B : Nat} (h : PkBox w g sum epoch frm number A n c) (hb : Below B w w') (hg : g < B) : PkBox w' g sum epoch frm number A n c := Blk.below h hb hg
theorem PkBox.c32 (h : PkBox w g sum epoch frm number A n c) (hs : sum.length = 32) : w.cell? ⟨g, 32, none⟩ = some (.int .i64 epoch) := Blk.cell h 32 (by simp [packetC, hs])
theorem PkBox.c33 (h : PkBox w g sum epoch frm number A n c) (hs : sum.length = 32) : w.cell? ⟨g, 33, none⟩ = some (.int .i64 frm) := Blk.cell h 33 (by simp [packetC, hs])
theorem PkBox.c34 (h : PkBox w g sum epoch frm number A n c) (hs : sum.length = 32) : w.cell? ⟨g, 34, none⟩ = some (.int .i64 number) := Blk.cell h 34 (by simp [packetC, hs])
theorem PkBox.c35 (h : PkBox w g sum epoch frm number A n c) (hs : sum.length = 32) : w.cell? ⟨g, 35, none⟩ = some (.slice A n c) := Blk.cell h 35 (by simp [packetC, hs])
theorem PkBox.r0 (h : PkBox w g sum epoch frm number A n c) (hs : sum.length = 32) : w.rangeAt g 0 (sum.map b8) := by
  have := Blk.range h 0 32
  unfold packetC at this
  rw [List.drop_zero, List.take_append_of_le_length (by simp [hs]), List.take_of_length_le (by simp [hs])] at this
  exact this
theorem PkBox.all5 (h : PkBox w g sum epoch frm number A n c) (hs : sum.length = 32) : w.cell? ⟨g, 32, none⟩ = some (.int .i64 epoch) ∧ w.cell? ⟨g, 33, none⟩ = some (.int .i64 frm) ∧ w.cell? ⟨g, 34, none⟩ = some (.int .i64 number) ∧ w.cell? ⟨g, 35, none⟩ = some (.slice A n c) ∧ w.rangeAt g 0 (sum.map b8) :=
  ⟨h.c32 hs, h.c33 hs, h.c34 hs, h.c35 hs, h.r0 hs⟩
end
theorem infoSum : (Try.prog.info? 23).map (·.size) = some 32 := by kernel_rfl
def pkBad (epoch frm number : Int) (n : Nat) : Bool := outOf epoch 4294967295 || outOf frm 31 || outOf number 4294967295 || outOf n 65535 || decide (65536 < 43 + n)
def pkBytes (sum : List (BitVec 8)) (epoch frm number : Int) (text : List (BitVec 8)) : List (BitVec 8) := groupB sum epoch frm ++ (be number 4 ++ rowB text)
theorem rowB_len (ys : List (BitVec 8)) : (rowB ys).length = 2 + ys.length := by unfold rowB; rw [List.length_append, be_len]
theorem groupB_len (sum : List (BitVec 8)) (epoch frm : Int) : (groupB sum epoch frm).length = sum.length + 5 := by unfold groupB; rw [List.length_append, List.length_append, be_len, be_len]
theorem pkBytes_len (sum : List (BitVec 8)) (epoch frm number : Int) (text : List (BitVec 8)) (hs : sum.length = 32) : (pkBytes sum epoch frm number text).length = 43 + text.length := by unfold pkBytes; rw [List.length_append, List.length_append, groupB_len, be_len, rowB_len, hs]; omega

set_option maxRecDepth 100000 in
set_option maxHeartbeats 2000000 in
theorem putPacket_any (sum : List (BitVec 8)) (epoch frm number : Int) (A : Option Addr) (n c B' : Nat) (text : List (BitVec 8)) (w : World) (hs : sum.length = 32) (e1 : -9223372036854775808 ≤ epoch) (e2 : epoch < 9223372036854775808) (f1 : -9223372036854775808 ≤ frm) (f2 : frm < 9223372036854775808) (n1 : -9223372036854775808 ≤ number) (n2 : number < 9223372036854775808)
    (hr : Rd b8 w B' A text) (hB' : B' ≤ w.heap.size) (hn : text.length = n) (hy : n ≤ 1000000) :
    Calls Try.prog 13 #[.agg (packetC sum epoch frm number A n c).toArray] w fun e w' => ∃ v, e = .returned (.tuple #[v, errV (if pkBad epoch frm number n then 3 else 0)]) ∧ Own b8 w' w.heap.size 5 v (if pkBad epoch frm number n then [] else pkBytes sum epoch frm number text) ∧ Below w.heap.size w w' := by
  have HS := Lib.hid hs
  have HR := Lib.hid hr
  have HN := Lib.hid hn
  have HBx := Lib.hid (show PkBox (w.alloc (.cells (packetC sum epoch frm number A n c).toArray 26)) w.heap.size sum epoch frm number A n c from Blk.new w _ _)
  have HF := Lib.hid (show ∀ W1, (w.alloc (.cells (packetC sum epoch frm number A n c).toArray 26)).alloc (.cells #[.slice none 0 0, .bool false] 112) = W1 →
      PkBox W1 w.heap.size sum epoch frm number A n c ∧ Pen W1 (w.heap.size + 1) (w.heap.size + 1) [] false ∧ Below w.heap.size w W1 ∧ W1.heap.size = w.heap.size + 2 by
    rintro W1 rfl
    refine ⟨Blk.alloc HBx.out _, pen_of (v := .slice none 0 0) ?_ (Own.nil_ _ _ _ _) (Nat.le_refl _), ((Below.refl _ _).alloc (Nat.le_refl _) _).alloc (by simp) _, by simp⟩
    exact Blk.at_size _ [.slice none 0 0, .bool false] (by simp))
  obtain ⟨q, hq⟩ : ∃ q, q = pkBad epoch frm number n := ⟨_, rfl⟩
  have HQ := Lib.hid hq
  rw [← hq]
  clear hs hr hn hq
  go_enter Try.func13, Try.ntmps13
  go_wp2_with (generalize hW1 : World.alloc (World.alloc w _) _ = W1; obtain ⟨hbx1, hp1, hb1, hz1⟩ := HF.out W1 hW1; clear hW1; have HBx1 := Lib.hid hbx1; have HP1 := Lib.hid hp1; have HB1 := Lib.hid hb1; obtain ⟨c32, c33, c34, c35, -⟩ := hbx1.all5 HS.out; clear hbx1 hp1 hb1; refine wpList_load_mid rfl 23 (.tmp 8) rfl w.heap.size 0 rfl (sum.map b8) _ (HBx1.out.r0 HS.out) Try.underlying23 rfl (by rw [List.length_map, HS.out]; exact infoSum) ?_)
  have hg := group_any HP1.out sum epoch frm HS.out e1 e2 f1 f2 (by simp)
  rw [arrV_mk] at hg
  have HG := Lib.hid hg
  clear hg
  refine HG.out.mono ?_
  rintro e w2 ⟨rfl, hp2, hb2⟩
  have hz2 : W1.heap.size ≤ w2.heap.size := hb2.size
  have W1w := Lib.hid ((Below.refl (w.heap.size + 1) W1))
  have W1b := HBx1
  clear c32 c33 c34 c35
  have W2b := Lib.hid (W1b.out.below hb2 (by omega))
  obtain ⟨c32, c33, c34, c35, -⟩ := W2b.out.all5 HS.out
  have W2w := Lib.hid (W1w.out.trans hb2)
  have HP2 := Lib.hid hp2
  clear hp2 hb2
  go_wp2_with fail
  refine (number_in HP2.out number 4 4 rfl 4294967295 n1 n2 (by omega) (by rw [List.length_append, groupB_len, HS.out]; simp)).mono ?_
  rintro e w3 ⟨rfl, hp3, hb3⟩
  have hz3 : w2.heap.size ≤ w3.heap.size := hb3.size
  clear c32 c33 c34 c35
  have W3b := Lib.hid (W2b.out.below hb3 (by omega))
  obtain ⟨c32, c33, c34, c35, -⟩ := W3b.out.all5 HS.out
  have W3w := Lib.hid (W2w.out.trans hb3)
  have HP3 := Lib.hid hp3
  clear hp3 hb3
  go_wp2_with fail
  refine (row_any HP3.out (HR.out.below ((HB1.out.trans (W3w.out.mono (by omega))).mono hB')) (by omega) HN.out (by rw [List.length_append, List.length_append, groupB_len, be_len, HS.out]; simp) (by omega)).mono ?_
  rintro e w4 ⟨rfl, ⟨zs, hp4, hzs, hzl⟩, hb4⟩
  have HP4 := Lib.hid hp4
  have HZ := Lib.hid hzs
  have HBe := Lib.hid (HB1.out.trans ((W3w.out.trans hb4).mono (by omega)))
  clear hp4 hb4 hzs c32 c33 c34 c35
  go_wp2_with fail
  have hq := HQ.out
  have hend := end_any HP4.out
  have hbd : ∀ b : Bool, b = (false || outOf epoch 4294967295 || outOf frm 31 || outOf number 4294967295 || outOf n 65535) → pkBad epoch frm number n = (b || decide (65536 < 43 + n)) := by rintro b rfl; unfold pkBad; simp
  have hkey : endBad (false || outOf epoch 4294967295 || outOf frm 31 || outOf number 4294967295 || outOf n 65535) ([] ++ groupB sum epoch frm ++ be number 4 ++ zs) = q ∧ (q = false → [] ++ groupB sum epoch frm ++ be number 4 ++ zs = pkBytes sum epoch frm number text) := by
    have hzs := HZ.out
    rw [hq, hbd _ rfl]
    generalize (false || outOf epoch 4294967295 || outOf frm 31 || outOf number 4294967295 || outOf n 65535) = b at hzs ⊢
    cases b with
    | true => exact ⟨rfl, fun h => by simp at h⟩
    | false =>
      have hz := hzs rfl
      subst hz
      refine ⟨?_, fun _ => by unfold pkBytes; simp only [List.nil_append, List.append_assoc]⟩
      unfold endBad
      rw [List.length_append, List.length_append, List.nil_append, groupB_len, be_len, rowB_len, HS.out, HN.out]
      simp only [Bool.false_or]
      congr 1
      apply propext; constructor <;> intro <;> omega
  rw [hkey.1] at hend
  have Hx := Lib.hid hkey.2
  have HEnd := Lib.hid hend
  clear hend hkey hbd hq
  cases q with
  | true =>
    refine HEnd.out.mono ?_
    rintro e w5 ⟨⟨v5, rfl, ho5⟩, rfl⟩
    rw [if_pos rfl] at ho5
    have HO5 := Lib.hid ho5
    clear ho5
    go_wp2_with fail
    go_ret2
    exact ⟨_, rfl, HO5.out.less (by omega), HBe.out⟩
  | false =>
    refine HEnd.out.mono ?_
    rintro e w5 ⟨⟨v5, rfl, ho5⟩, rfl⟩
    rw [if_neg (by simp), Hx.out rfl] at ho5
    have HO5 := Lib.hid ho5
    clear ho5
    go_wp2_with fail
    go_ret2
    exact ⟨_, rfl, HO5.out.less (by omega), HBe.out⟩
end Go.Proofs.Ytloglpamnalmeaa
