/- CONTRACTS: wire.PutPacket, burrowref09.PutPacket. -/
import Derived.Test.YtloglpamnalmeaaPens
import Derived.Test.YtloglpamnalmeaaEyes
import Derived.Laws.Tables
namespace Go.Proofs.Ytloglpamnalmeaa
open Go.RowKit
set_option linter.unusedVariables false
set_option linter.unusedSimpArgs false

/-- a packet's cells -/
def packetC (sum : List (BitVec 8)) (epoch frm number : Int) (A : Option Addr) (n c : Nat) : List Value := sum.map b8 ++ [.int .i64 epoch, .int .i64 frm, .int .i64 number, .slice A n c]
section
variable {w : World} {g : Nat} {sum : List (BitVec 8)} {epoch frm number : Int} {A : Option Addr} {n c : Nat}
def PkBox (w : World) (g : Nat) (sum : List (BitVec 8)) (epoch frm number : Int) (A : Option Addr) (n c : Nat) : Prop := Blk w g 26 (packetC sum epoch frm number A n c)
theorem PkBox.below {w' : World} {B : Nat} (h : PkBox w g sum epoch frm number A n c) (hb : Below B w w') (hg : g < B) : PkBox w' g sum epoch frm number A n c := Blk.below h hb hg
theorem PkBox.c32 (h : PkBox w g sum epoch frm number A n c) (hs : sum.length = 32) : w.cell? ⟨g, 32, none⟩ = some (.int .i64 epoch) := Blk.cell h 32 (by simp [packetC, hs])
theorem PkBox.c33 (h : PkBox w g sum epoch frm number A n c) (hs : sum.length = 32) : w.cell? ⟨g, 33, none⟩ = some (.int .i64 frm) := Blk.cell h 33 (by simp [packetC, hs])
theorem PkBox.c34 (h : PkBox w g sum epoch frm number A n c) (hs : sum.length = 32) : w.cell? ⟨g, 34, none⟩ = some (.int .i64 number) := Blk.cell h 34 (by simp [packetC, hs])
theorem PkBox.c35 (h : PkBox w g sum epoch frm number A n c) (hs : sum.length = 32) : w.cell? ⟨g, 35, none⟩ = some (.slice A n c) := Blk.cell h 35 (by simp [packetC, hs])
theorem PkBox.r0 (h : PkBox w g sum epoch frm number A n c) (hs : sum.length = 32) : w.rangeAt g 0 (sum.map b8) := by
  have := Blk.range h 0 32
  unfold packetC at this
  rw [List.drop_zero, List.take_append_of_le_length (by simp [hs]), List.take_of_length_le (by simp [hs])] at this
  exact this
theorem PkBox.all5 (h : PkBox w g sum epoch frm number A n c) (hs : sum.length = 32) : w.cell? ⟨g, 32, none⟩ = some (.int .i64 epoch) ∧ w.cell? ⟨g, 33, none⟩ = some (.int .i64 frm) ∧ w.cell? ⟨g, 34, none⟩ = some (.int .i64 number) ∧ w.cell? ⟨g, 35, none⟩ = some (.slice A n c) ∧ w.rangeAt g 0 (sum.map b8) :=
  ⟨h.c32 hs, h.c33 hs, h.c34 hs, h.c35 hs, h.r0 hs⟩
end
theorem infoSum : (Try.prog.info? 23).map (·.size) = some 32 := by kernel_rfl
def pkBad (epoch frm number : Int) (n : Nat) : Bool := outOf epoch 4294967295 || outOf frm 31 || outOf number 4294967295 || outOf n 65535 || decide (65536 < 43 + n)
def pkBytes (sum : List (BitVec 8)) (epoch frm number : Int) (text : List (BitVec 8)) : List (BitVec 8) := groupB sum epoch frm ++ (be number 4 ++ rowB text)
theorem rowB_len (ys : List (BitVec 8)) : (rowB ys).length = 2 + ys.length := by unfold rowB; rw [List.length_append, be_len]
theorem groupB_len (sum : List (BitVec 8)) (epoch frm : Int) : (groupB sum epoch frm).length = sum.length + 5 := by unfold groupB; rw [List.length_append, List.length_append, be_len, be_len]
theorem pkBytes_len (sum : List (BitVec 8)) (epoch frm number : Int) (text : List (BitVec 8)) (hs : sum.length = 32) : (pkBytes sum epoch frm number text).length = 43 + text.length := by unfold pkBytes; rw [List.length_append, List.length_append, groupB_len, be_len, rowB_len, hs]; omega

set_option maxRecDepth 100000 in
set_option maxHeartbeats 2000000 in
theorem putPacket_any (sum : List (BitVec 8)) (epoch frm number : Int) (A : Option Addr) (n c B' : Nat) (text : List (BitVec 8)) (w : World) (hs : sum.length = 32) (e1 : -9223372036854775808 ≤ epoch) (e2 : epoch < 9223372036854775808) (f1 : -9223372036854775808 ≤ frm) (f2 : frm < 9223372036854775808) (n1 : -9223372036854775808 ≤ number) (n2 : number < 9223372036854775808)
    (hr : Rd b8 w B' A text) (hB' : B' ≤ w.heap.size) (hn : text.length = n) (hy : n ≤ 1000000) :
    Calls Try.prog 13 #[.agg (packetC sum epoch frm number A n c).toArray] w fun e w' => ∃ v, e = .returned (.tuple #[v, errV (if pkBad epoch frm number n then 3 else 0)]) ∧ Own b8 w' w.heap.size 5 v (if pkBad epoch frm number n then [] else pkBytes sum epoch frm number text) ∧ Below w.heap.size w w' := by
  have HS := Lib.hid hs
  have HR := Lib.hid hr
  have HN := Lib.hid hn
  have HBx := Lib.hid (show PkBox (w.alloc (.cells (packetC sum epoch frm number A n c).toArray 26)) w.heap.size sum epoch frm number A n c from Blk.new w _ _)
  have HF := Lib.hid (show ∀ W1, (w.alloc (.cells (packetC sum epoch frm number A n c).toArray 26)).alloc (.cells #[.slice none 0 0, .bool false] 112) = W1 →
      PkBox W1 w.heap.size sum epoch frm number A n c ∧ Pen W1 (w.heap.size + 1) (w.heap.size + 1) [] false ∧ Below w.heap.size w W1 ∧ W1.heap.size = w.heap.size + 2 by
    rintro W1 rfl
    refine ⟨Blk.alloc HBx.out _, pen_of (v := .slice none 0 0) ?_ (Own.nil_ _ _ _ _) (Nat.le_refl _), ((Below.refl _ _).alloc (Nat.le_refl _) _).alloc (by simp) _, by simp⟩
    exact Blk.at_size _ [.slice none 0 0, .bool false] (by simp))
  obtain ⟨q, hq⟩ : ∃ q, q = pkBad epoch frm number n := ⟨_, rfl⟩
  have HQ := Lib.hid hq
  rw [← hq]
  clear hs hr hn hq
  go_enter Try.func13, Try.ntmps13
  go_wp2_with (generalize hW1 : World.alloc (World.alloc w _) _ = W1; obtain ⟨hbx1, hp1, hb1, hz1⟩ := HF.out W1 hW1; clear hW1; have HBx1 := Lib.hid hbx1; have HP1 := Lib.hid hp1; have HB1 := Lib.hid hb1; obtain ⟨c32, c33, c34, c35, -⟩ := hbx1.all5 HS.out; clear hbx1 hp1 hb1; refine wpList_load_mid rfl 23 (.tmp 8) rfl w.heap.size 0 rfl (sum.map b8) _ (HBx1.out.r0 HS.out) Try.underlying23 rfl (by rw [List.length_map, HS.out]; exact infoSum) ?_)
  have hg := group_any HP1.out sum epoch frm HS.out e1 e2 f1 f2 (by simp)
  rw [arrV_mk] at hg
  have HG := Lib.hid hg
  clear hg
  refine HG.out.mono ?_
  rintro e w2 ⟨rfl, hp2, hb2⟩
  have hz2 : W1.heap.size ≤ w2.heap.size := hb2.size
  have W1w := Lib.hid ((Below.refl (w.heap.size + 1) W1))
  have W1b := HBx1
  clear c32 c33 c34 c35
  have W2b := Lib.hid (W1b.out.below hb2 (by omega))
  obtain ⟨c32, c33, c34, c35, -⟩ := W2b.out.all5 HS.out
  have W2w := Lib.hid (W1w.out.trans hb2)
  have HP2 := Lib.hid hp2
  clear hp2 hb2
  go_wp2_with fail
  refine (number_in HP2.out number 4 4 rfl 4294967295 n1 n2 (by omega) (by rw [List.length_append, groupB_len, HS.out]; simp)).mono ?_
  rintro e w3 ⟨rfl, hp3, hb3⟩
  have hz3 : w2.heap.size ≤ w3.heap.size := hb3.size
  clear c32 c33 c34 c35
  have W3b := Lib.hid (W2b.out.below hb3 (by omega))
  obtain ⟨c32, c33, c34, c35, -⟩ := W3b.out.all5 HS.out
  have W3w := Lib.hid (W2w.out.trans hb3)
  have HP3 := Lib.hid hp3
  clear hp3 hb3
  go_wp2_with fail
  refine (row_any HP3.out (HR.out.below ((HB1.out.trans (W3w.out.mono (by omega))).mono hB')) (by omega) HN.out (by rw [List.length_append, List.length_append, groupB_len, be_len, HS.out]; simp) (by omega)).mono ?_
  rintro e w4 ⟨rfl, ⟨zs, hp4, hzs, hzl⟩, hb4⟩
  have HP4 := Lib.hid hp4
  have HZ := Lib.hid hzs
  have HBe := Lib.hid (HB1.out.trans ((W3w.out.trans hb4).mono (by omega)))
  clear hp4 hb4 hzs c32 c33 c34 c35
  go_wp2_with fail
  have hq := HQ.out
  have hend := end_any HP4.out
  have hbd : ∀ b : Bool, b = (false || outOf epoch 4294967295 || outOf frm 31 || outOf number 4294967295 || outOf n 65535) → pkBad epoch frm number n = (b || decide (65536 < 43 + n)) := by rintro b rfl; unfold pkBad; simp
  have hkey : endBad (false || outOf epoch 4294967295 || outOf frm 31 || outOf number 4294967295 || outOf n 65535) ([] ++ groupB sum epoch frm ++ be number 4 ++ zs) = q ∧ (q = false → [] ++ groupB sum epoch frm ++ be number 4 ++ zs = pkBytes sum epoch frm number text) := by
    have hzs := HZ.out
    rw [hq, hbd _ rfl]
    generalize (false || outOf epoch 4294967295 || outOf frm 31 || outOf number 4294967295 || outOf n 65535) = b at hzs ⊢
    cases b with
    | true => exact ⟨rfl, fun h => by simp at h⟩
    | false =>
      have hz := hzs rfl
      subst hz
      refine ⟨?_, fun _ => by unfold pkBytes; simp only [List.nil_append, List.append_assoc]⟩
      unfold endBad
      rw [List.length_append, List.length_append, List.nil_append, groupB_len, be_len, rowB_len, HS.out, HN.out]
      simp only [Bool.false_or]
      congr 1
      apply propext; constructor <;> intro <;> omega
  rw [hkey.1] at hend
  have Hx := Lib.hid hkey.2
  have HEnd := Lib.hid hend
  clear hend hkey hbd hq
  cases q with
  | true =>
    refine HEnd.out.mono ?_
    rintro e w5 ⟨⟨v5, rfl, ho5⟩, rfl⟩
    rw [if_pos rfl] at ho5
    have HO5 := Lib.hid ho5
    clear ho5
    go_wp2_with fail
    go_ret2
    exact ⟨_, rfl, HO5.out.less (by omega), HBe.out⟩
  | false =>
    refine HEnd.out.mono ?_
    rintro e w5 ⟨⟨v5, rfl, ho5⟩, rfl⟩
    rw [if_neg (by simp), Hx.out rfl] at ho5
    have HO5 := Lib.hid ho5
    clear ho5
    go_wp2_with fail
    go_ret2
    exact ⟨_, rfl, HO5.out.less (by omega), HBe.out⟩
end Go.Proofs.Ytloglpamnalmeaa

/- CONTRACT: burrowref09.PutPacket. -/
namespace Go.Proofs.Ytloglpamnalmeaa
open Go.RowKit
set_option linter.unusedVariables false
set_option linter.unusedSimpArgs false
theorem outOf_nat {z most : Int} (h : outOf z most = false) : ∃ N : Nat, z = (N : Int) ∧ (N : Int) ≤ most := by
  unfold outOf at h
  simp at h
  exact ⟨z.toNat, by omega, by omega⟩

theorem fits_big (A : Option Addr) (n c : Nat) (w : World) (h : 65536 < n) : Calls Try.prog 55 #[.slice A n c] w fun e w' => e = .returned (.tuple #[.slice none 0 0, .bool false]) ∧ w = w' :=
  (fits_any A n c w).mono fun e w' ⟨h1, h2⟩ => ⟨by rw [h1, if_pos h]; simp [h], h2⟩
theorem fits_ok (A : Option Addr) (n c : Nat) (w : World) (h : ¬ 65536 < n) : Calls Try.prog 55 #[.slice A n c] w fun e w' => e = .returned (.tuple #[.slice A n c, .bool true]) ∧ w = w' :=
  (fits_any A n c w).mono fun e w' ⟨h1, h2⟩ => ⟨by rw [h1, if_neg h]; simp [h], h2⟩
set_option maxRecDepth 100000 in
set_option maxHeartbeats 4000000 in
theorem refPutPacket_any (sum : List (BitVec 8)) (epoch frm number : Int) (A : Option Addr) (n c B' : Nat) (text : List (BitVec 8)) (w : World) (hs : sum.length = 32)
    (hr : Rd b8 w B' A text) (hB' : B' ≤ w.heap.size) (hn : text.length = n) (hy : n ≤ 1000000) :
    Calls Try.prog 14 #[.agg (packetC sum epoch frm number A n c).toArray] w fun e w' => ∃ v, e = .returned (.tuple #[v, .bool (!pkBad epoch frm number n)]) ∧ Own b8 w' w.heap.size 5 v (if pkBad epoch frm number n then [] else pkBytes sum epoch frm number text) ∧ Below w.heap.size w w' := by
  obtain ⟨i0, hi0, hz0, hz1, hz2⟩ := info_parts infoU8
  have HS := Lib.hid hs
  have HR := Lib.hid hr
  have HN := Lib.hid hn
  have HBx := Lib.hid (show PkBox (w.alloc (.cells (packetC sum epoch frm number A n c).toArray 26)) w.heap.size sum epoch frm number A n c from Blk.new w _ _)
  have HB0 := Lib.hid ((Below.refl w.heap.size w).alloc (Nat.le_refl _) (.cells (packetC sum epoch frm number A n c).toArray 26))
  have hz := World.size_alloc w (.cells (packetC sum epoch frm number A n c).toArray 26)
  clear hs hr hn
  by_cases h1 : (outOf epoch 4294967295 || outOf frm 31) = true
  · have e1 : pkBad epoch frm number n = true := by unfold pkBad; rw [h1]; rfl
    have hh := fun w => headGood_any epoch frm w
    simp only [h1] at hh
    have HH := Lib.hid hh
    rw [e1, if_pos rfl]
    clear e1 h1 hh
    obtain ⟨c32, c33, c34, c35, -⟩ := HBx.out.all5 HS.out
    go_enter Try.func14, Try.ntmps14
    go_wp2_with fail
    refine (HH.out _).mono ?_
    rintro e w' ⟨rfl, rfl⟩
    go_wp2_with fail
    go_ret2
    exact ⟨_, rfl, Own.nil_ _ _ _ _, HB0.out⟩
  · rw [Bool.not_eq_true] at h1
    have hh := fun w => headGood_any epoch frm w
    simp only [h1] at hh
    have HH := Lib.hid hh
    have H1 := Lib.hid h1
    clear h1 hh
    by_cases h2 : outOf number 4294967295 = true
    · have e1 : pkBad epoch frm number n = true := by unfold pkBad; rw [h2]; simp
      have hh := fun w => in9_any number 4294967295 w
      simp only [h2] at hh
      have HI := Lib.hid hh
      rw [e1, if_pos rfl]
      clear e1 h2 hh
      obtain ⟨c32, c33, c34, c35, -⟩ := HBx.out.all5 HS.out
      go_enter Try.func14, Try.ntmps14
      go_wp2_with fail
      refine (HH.out _).mono ?_
      rintro e w' ⟨rfl, rfl⟩
      go_wp2_with fail
      refine (HI.out _).mono ?_
      rintro e w' ⟨rfl, rfl⟩
      go_wp2_with fail
      go_ret2
      exact ⟨_, rfl, Own.nil_ _ _ _ _, HB0.out⟩
    · rw [Bool.not_eq_true] at h2
      have hh := fun w => in9_any number 4294967295 w
      simp only [h2] at hh
      have HI := Lib.hid hh
      have H2 := Lib.hid h2
      clear h2 hh
      by_cases h3 : 65535 < n
      · have e1 : pkBad epoch frm number n = true := by
          have : outOf (n : Int) 65535 = true := by unfold outOf; simp; omega
          unfold pkBad; rw [this]; simp
        have h3' : (65535 : Int) < (n : Int) := by omega
        rw [e1, if_pos rfl]
        clear e1 h3
        obtain ⟨c32, c33, c34, c35, -⟩ := HBx.out.all5 HS.out
        go_enter Try.func14, Try.ntmps14
        go_wp2_with fail
        refine (HH.out _).mono ?_
        rintro e w' ⟨rfl, rfl⟩
        go_wp2_with fail
        refine (HI.out _).mono ?_
        rintro e w' ⟨rfl, rfl⟩
        go_wp2_with fail
        go_ret2
        exact ⟨_, rfl, Own.nil_ _ _ _ _, HB0.out⟩
      · have h3' : ((65535 : Int) < (n : Int)) = False := by simp; omega
        have e1 : pkBad epoch frm number n = decide (65536 < 43 + n) := by
          have h3o : outOf (n : Int) 65535 = false := by unfold outOf; simp; omega
          unfold pkBad; rw [H1.out, H2.out, h3o]; rfl
        obtain ⟨E, rfl, hE⟩ := outOf_nat (Bool.or_eq_false_iff.1 H1.out).1
        obtain ⟨F, rfl, hF⟩ := outOf_nat (Bool.or_eq_false_iff.1 H1.out).2
        obtain ⟨N, rfl, hN⟩ := outOf_nat H2.out
        rw [e1]
        clear e1 h3
        by_cases h4 : 65536 < 43 + n
        · rw [decide_eq_true h4, if_pos rfl]
          obtain ⟨c32, c33, c34, c35, -⟩ := HBx.out.all5 HS.out
          go_enter Try.func14, Try.ntmps14
          go_wp2_with fail
          generalize World.alloc w _ = W0 at HBx HB0 hz c32 c33 c34 c35 ⊢
          refine (HH.out _).mono ?_
          rintro e w' ⟨rfl, rfl⟩
          go_wp2_with fail
          refine (HI.out _).mono ?_
          rintro e w' ⟨rfl, rfl⟩
          go_wp2_with fail
          have hu := Try.underlying23
          have hi : (Try.prog.info? 23).map (·.size) = some (sum.map b8).length := by rw [List.length_map, HS.out]; exact infoSum
          have ck := HBx.out.r0 HS.out
          have hh := head9_any sum E F HS.out (by omega) (by omega) W0.drew
          rw [arrV_mk] at hh
          have HHd := Lib.hid hh
          clear hh
          go_region_held3 (fun w' => w'.cell? ⟨w.heap.size, 32, none⟩ = some (.int .i64 (E : Int)) ∧ w'.cell? ⟨w.heap.size, 33, none⟩ = some (.int .i64 (F : Int)) ∧ w'.cell? ⟨w.heap.size, 34, none⟩ = some (.int .i64 (N : Int)) ∧ w'.cell? ⟨w.heap.size, 35, none⟩ = some (.slice A n c) ∧ w'.rangeAt w.heap.size 0 (sum.map b8))
            (first
              | exact (HBx.out.below HB5.out (by omega)).all5 HS.out
              | exact (HBx.out.below HB4.out (by omega)).all5 HS.out
              | exact (HBx.out.below HB3.out (by omega)).all5 HS.out
              | exact (HBx.out.below HB2.out (by omega)).all5 HS.out
              | exact (HBx.out.below HB1.out (by omega)).all5 HS.out
              | go_keep)
            (first
              | (go_simp; go_at_call 56; refine HHd.out.mono ?_; rintro e w1 ⟨v1, rfl, ho1, hb1⟩; have HO1 := Lib.hid (show Own b8 w1 W0.heap.size 5 v1 _ from ho1); have HB1 := Lib.hid ((Below.refl W0.heap.size W0).drew.trans hb1); clear ho1 hb1)
              | (go_simp; go_at_call 57; refine (num9_any N 4 4 rfl (by omega) (by omega) _).mono ?_; rintro e w2 ⟨v2, rfl, ho2, hb2⟩; obtain ⟨A2, c2, rfl, hr2, -, -, -⟩ := ho2.shape' (be_len _ _); have HR2 := Lib.hid hr2; have HO12 := Lib.hid (HO1.out.below hb2 (Nat.le_refl _)); have HB2 := Lib.hid (HB1.out.trans (hb2.mono HB1.out.size)); clear ho2 hb2 hr2)
              | (refine step_append_rd rfl (.tmp 28) (.tmp 31) 24 rfl b8_one W0.heap.size 5 i0 _ 1 Try.underlying24 hi0 hz0 hz1 hz2 rfl _ _ rfl HO12.out w2.heap.size A2 4 c2 (be N 4) rfl (be_len _ _).symm HR2.out (by have := HS.out; simp [maxLen, be_len, groupB_len]; omega) (by have := HS.out; simp [be_len, groupB_len]; omega) HB2.out.size ?_; intro v3 w3 hown3 hg3 hbb3; have HO3 := Lib.hid hown3; have HB3 := Lib.hid (hbb3 _ _ (Nat.le_refl _) HB2.out); clear hown3 hg3 hbb3)
              | (go_simp; go_at_call 58; refine (row9_any (HR.out.below ((HB0.out.trans (HB3.out.mono (by omega))).mono hB')) (by have := HB3.out.size; omega) HN.out (by omega)).mono ?_; rintro e w4 ⟨v4, rfl, ho4, hb4⟩; obtain ⟨A4, c4, rfl, hr4, -, -, -⟩ := ho4.shape' (n := 2 + n) (by rw [rowB_len, HN.out]); have HR4 := Lib.hid hr4; have HO34 := Lib.hid (HO3.out.below hb4 (Nat.le_refl _)); have HB4 := Lib.hid (HB3.out.trans (hb4.mono HB3.out.size)); clear ho4 hb4 hr4)
              | (refine step_append_rd rfl (.tmp 32) (.tmp 35) 24 rfl b8_one W0.heap.size 5 i0 _ 1 Try.underlying24 hi0 hz0 hz1 hz2 rfl _ _ rfl HO34.out w4.heap.size A4 (2 + n) c4 (rowB text) rfl (by rw [rowB_len, HN.out]) HR4.out (by have := HS.out; have := HN.out; simp [maxLen, be_len, groupB_len, rowB_len]; omega) (by have := HS.out; have := HN.out; simp [be_len, groupB_len, rowB_len]; omega) HB4.out.size ?_; intro v5 w5 hown5 hg5 hbb5; obtain ⟨A5, c5, rfl, -, -, -, -⟩ := hown5.shape' (n := 43 + n) (by have := HS.out; have := HN.out; simp [be_len, groupB_len, rowB_len]; omega); have HO5 := Lib.hid hown5; have HB5 := Lib.hid (hbb5 _ _ (Nat.le_refl _) HB4.out); clear hown5 hg5 hbb5)
              | (go_simp; go_at_call 55; refine (fits_big _ _ _ _ h4).mono ?_; rintro e w6 ⟨rfl, rfl⟩))
          go_wp2_with fail
          go_ret2
          exact ⟨_, rfl, Own.nil_ _ _ _ _, HB0.out.trans (HB5.out.mono (by omega))⟩
        · rw [decide_eq_false h4, if_neg (by simp)]
          obtain ⟨c32, c33, c34, c35, -⟩ := HBx.out.all5 HS.out
          go_enter Try.func14, Try.ntmps14
          go_wp2_with fail
          generalize World.alloc w _ = W0 at HBx HB0 hz c32 c33 c34 c35 ⊢
          refine (HH.out _).mono ?_
          rintro e w' ⟨rfl, rfl⟩
          go_wp2_with fail
          refine (HI.out _).mono ?_
          rintro e w' ⟨rfl, rfl⟩
          go_wp2_with fail
          have hu := Try.underlying23
          have hi : (Try.prog.info? 23).map (·.size) = some (sum.map b8).length := by rw [List.length_map, HS.out]; exact infoSum
          have ck := HBx.out.r0 HS.out
          have hh := head9_any sum E F HS.out (by omega) (by omega) W0.drew
          rw [arrV_mk] at hh
          have HHd := Lib.hid hh
          clear hh
          go_region_held3 (fun w' => w'.cell? ⟨w.heap.size, 32, none⟩ = some (.int .i64 (E : Int)) ∧ w'.cell? ⟨w.heap.size, 33, none⟩ = some (.int .i64 (F : Int)) ∧ w'.cell? ⟨w.heap.size, 34, none⟩ = some (.int .i64 (N : Int)) ∧ w'.cell? ⟨w.heap.size, 35, none⟩ = some (.slice A n c) ∧ w'.rangeAt w.heap.size 0 (sum.map b8))
            (first
              | exact (HBx.out.below HB5.out (by omega)).all5 HS.out
              | exact (HBx.out.below HB4.out (by omega)).all5 HS.out
              | exact (HBx.out.below HB3.out (by omega)).all5 HS.out
              | exact (HBx.out.below HB2.out (by omega)).all5 HS.out
              | exact (HBx.out.below HB1.out (by omega)).all5 HS.out
              | go_keep)
            (first
              | (go_simp; go_at_call 56; refine HHd.out.mono ?_; rintro e w1 ⟨v1, rfl, ho1, hb1⟩; have HO1 := Lib.hid (show Own b8 w1 W0.heap.size 5 v1 _ from ho1); have HB1 := Lib.hid ((Below.refl W0.heap.size W0).drew.trans hb1); clear ho1 hb1)
              | (go_simp; go_at_call 57; refine (num9_any N 4 4 rfl (by omega) (by omega) _).mono ?_; rintro e w2 ⟨v2, rfl, ho2, hb2⟩; obtain ⟨A2, c2, rfl, hr2, -, -, -⟩ := ho2.shape' (be_len _ _); have HR2 := Lib.hid hr2; have HO12 := Lib.hid (HO1.out.below hb2 (Nat.le_refl _)); have HB2 := Lib.hid (HB1.out.trans (hb2.mono HB1.out.size)); clear ho2 hb2 hr2)
              | (refine step_append_rd rfl (.tmp 28) (.tmp 31) 24 rfl b8_one W0.heap.size 5 i0 _ 1 Try.underlying24 hi0 hz0 hz1 hz2 rfl _ _ rfl HO12.out w2.heap.size A2 4 c2 (be N 4) rfl (be_len _ _).symm HR2.out (by have := HS.out; simp [maxLen, be_len, groupB_len]; omega) (by have := HS.out; simp [be_len, groupB_len]; omega) HB2.out.size ?_; intro v3 w3 hown3 hg3 hbb3; have HO3 := Lib.hid hown3; have HB3 := Lib.hid (hbb3 _ _ (Nat.le_refl _) HB2.out); clear hown3 hg3 hbb3)
              | (go_simp; go_at_call 58; refine (row9_any (HR.out.below ((HB0.out.trans (HB3.out.mono (by omega))).mono hB')) (by have := HB3.out.size; omega) HN.out (by omega)).mono ?_; rintro e w4 ⟨v4, rfl, ho4, hb4⟩; obtain ⟨A4, c4, rfl, hr4, -, -, -⟩ := ho4.shape' (n := 2 + n) (by rw [rowB_len, HN.out]); have HR4 := Lib.hid hr4; have HO34 := Lib.hid (HO3.out.below hb4 (Nat.le_refl _)); have HB4 := Lib.hid (HB3.out.trans (hb4.mono HB3.out.size)); clear ho4 hb4 hr4)
              | (refine step_append_rd rfl (.tmp 32) (.tmp 35) 24 rfl b8_one W0.heap.size 5 i0 _ 1 Try.underlying24 hi0 hz0 hz1 hz2 rfl _ _ rfl HO34.out w4.heap.size A4 (2 + n) c4 (rowB text) rfl (by rw [rowB_len, HN.out]) HR4.out (by have := HS.out; have := HN.out; simp [maxLen, be_len, groupB_len, rowB_len]; omega) (by have := HS.out; have := HN.out; simp [be_len, groupB_len, rowB_len]; omega) HB4.out.size ?_; intro v5 w5 hown5 hg5 hbb5; obtain ⟨A5, c5, rfl, -, -, -, -⟩ := hown5.shape' (n := 43 + n) (by have := HS.out; have := HN.out; simp [be_len, groupB_len, rowB_len]; omega); have HO5 := Lib.hid hown5; have HB5 := Lib.hid (hbb5 _ _ (Nat.le_refl _) HB4.out); clear hown5 hg5 hbb5)
              | (go_simp; go_at_call 55; refine (fits_ok _ _ _ _ h4).mono ?_; rintro e w6 ⟨rfl, rfl⟩))
          go_wp2_with fail
          go_ret2
          exact ⟨_, rfl, (HO5.out.less (by omega)).cast (by unfold pkBytes; simp only [List.append_assoc]), HB0.out.trans (HB5.out.mono (by omega))⟩
end Go.Proofs.Ytloglpamnalmeaa

/- CONTRACT: wire.check for packets. -/
namespace Go.Proofs.Ytloglpamnalmeaa
open Go.RowKit
set_option linter.unusedVariables false
set_option linter.unusedSimpArgs false

def zero32 : List (BitVec 8) := List.replicate 32 0#8
theorem zero32_len : zero32.length = 32 := by simp [zero32]
theorem packetC_len (sum : List (BitVec 8)) (epoch frm number : Int) (A : Option Addr) (n c : Nat) (hs : sum.length = 32) : (packetC sum epoch frm number A n c).length = 36 := by simp [packetC, hs]
theorem packetC_one (sum : List (BitVec 8)) (epoch frm number : Int) (A : Option Addr) (n c : Nat) : ∀ u ∈ packetC sum epoch frm number A n c, u.oneCell' = true := by
  intro u hu
  simp only [packetC, List.mem_append, List.mem_map, List.mem_cons, List.not_mem_nil, or_false] at hu
  rcases hu with ⟨x, -, rfl⟩ | rfl | rfl | rfl | rfl <;> rfl
theorem infoPacket : (Try.prog.info? 26).map (·.size) = some 36 := by kernel_rfl
/-- is what was read written to just these bytes? -/
def pkGood (bad : Bool) (rest : List (BitVec 8)) (bs : List (BitVec 8)) (sum : List (BitVec 8)) (epoch frm number : Int) (text : List (BitVec 8)) : Bool := !bad && rest.isEmpty && !pkBad epoch frm number text.length && (bs == pkBytes sum epoch frm number text)

set_option maxRecDepth 100000 in
set_option maxHeartbeats 4000000 in
theorem checkPk_any {w : World} {B g : Nat} {rest : List (BitVec 8)} {bad : Bool} (hE : Eye w B g rest bad) {A0 : Option Addr} {n0 c0 B0 : Nat} {bs : List (BitVec 8)} (hb : Rd b8 w B0 A0 bs) (hB0 : B0 ≤ w.heap.size) (hn0 : bs.length = n0) (hy0 : n0 ≤ 1000000)
    (sum : List (BitVec 8)) (epoch frm number : Int) (A : Option Addr) (n c B' : Nat) (text : List (BitVec 8)) (hs : sum.length = 32) (e1 : -9223372036854775808 ≤ epoch) (e2 : epoch < 9223372036854775808) (f1 : -9223372036854775808 ≤ frm) (f2 : frm < 9223372036854775808) (n1 : -9223372036854775808 ≤ number) (n2 : number < 9223372036854775808)
    (hr : Rd b8 w B' A text) (hB' : B' ≤ w.heap.size) (hn : text.length = n) (hy : n ≤ 1000000) :
    Calls Try.prog 62 #[.pointer (some ⟨g, 0, none⟩), .slice A0 n0 c0, .agg (packetC sum epoch frm number A n c).toArray, .func (.func 13) #[] #[]] w fun e w' =>
      e = .returned (if pkGood bad rest bs sum epoch frm number text then .tuple #[.agg (packetC sum epoch frm number A n c).toArray, .nilIface] else .tuple #[.agg (packetC zero32 0 0 0 none 0 0).toArray, .iface 108 (.int .i64 3)]) ∧ Below w.heap.size w w' := by
  have HS := Lib.hid hs
  have HR := Lib.hid hr
  have HN := Lib.hid hn
  have HBs := Lib.hid hb
  have HN0 := Lib.hid hn0
  have hgl := hE.lt
  have hgl1 : g < w.heap.size + 1 := by omega
  have hgl2 : g < w.heap.size + 1 + 1 := by omega
  obtain ⟨⟨Ae, ce, he, hre, hce⟩, hle⟩ := hE
  have ce0 := he.cell 0 rfl
  have ce1 := he.cell 1 rfl
  have HF := Lib.hid (show ∀ W3, ((w.alloc (.cells (packetC sum epoch frm number A n c).toArray 26)).alloc (.cells (packetC zero32 0 0 0 none 0 0).toArray 26)).alloc (.cells (packetC zero32 0 0 0 none 0 0).toArray 26) = W3 →
      PkBox W3 w.heap.size sum epoch frm number A n c ∧ PkBox W3 (w.heap.size + 1) zero32 0 0 0 none 0 0 ∧ PkBox W3 (w.heap.size + 1 + 1) zero32 0 0 0 none 0 0 ∧ Below w.heap.size w W3 ∧ W3.heap.size = w.heap.size + 3 by
    rintro W3 rfl
    refine ⟨Blk.alloc (Blk.alloc (Blk.new w _ _) _) _, Blk.alloc (Blk.at_size _ _ (by simp)) _, Blk.at_size _ _ (by simp), (((Below.refl _ _).alloc (Nat.le_refl _) _).alloc (by simp) _).alloc (by simp; omega) _, by simp⟩)
  obtain ⟨q, hq⟩ : ∃ q, q = pkGood bad rest bs sum epoch frm number text := ⟨_, rfl⟩
  rw [← hq]
  have HQ := Lib.hid hq
  clear he hre hs hr hn hb hn0 hq
  cases bad with
  | true =>
    have hq0 : q = false := by rw [HQ.out]; unfold pkGood; simp
    subst hq0
    go_enter Try.func62, Try.ntmps62
    go_wp2_with (first
      | (generalize hW3 : World.alloc (World.alloc (World.alloc w _) _) _ = W3; have hf3 := HF.out W3 hW3; clear hW3; obtain ⟨hp3, hz3, hn3, hb3, hs3⟩ := hf3; have HZ3 := Lib.hid hz3; have HN3 := Lib.hid hn3; have HB3 := Lib.hid hb3; clear hp3 hz3 hn3 hb3; refine wpList_load_mid rfl 26 (.tmp 10) rfl (w.heap.size + 1 + 1) 0 rfl (packetC zero32 0 0 0 none 0 0) _ (Blk.whole HN3.out) Try.underlying26 rfl (by rw [packetC_len _ _ _ _ _ _ _ zero32_len]; exact infoPacket) ?_)
      | (refine wpList_store_blk rfl 26 _ _ rfl (w.heap.size + 1) rfl (packetC zero32 0 0 0 none 0 0) rfl _ _ HZ3.out rfl (by rw [packetC_len _ _ _ _ _ _ _ zero32_len]; exact infoPacket) (packetC_one _ _ _ _ _ _ _) ?_; intro w4 hp4 hg4; have HP4 := Lib.hid hp4; have HG4 := Lib.hid hg4; clear hp4 hg4))
    refine bodyPost_ret (v := .tuple #[.agg (packetC zero32 0 0 0 none 0 0).toArray, .iface 108 (.int .i64 3)]) (results_blk_tmp (g := w.heap.size + 1) rfl _ _ _ _ _ _ rfl rfl HP4.out Try.underlying26 rfl (by rw [packetC_len _ _ _ _ _ _ _ zero32_len]; exact infoPacket)) rfl ?_
    exact ⟨rfl, HB3.out.grown HG4.out (by omega) (fun k e => by cases e; omega)⟩
  | false =>
    by_cases hrest : rest = []
    · subst hrest
      obtain ⟨r, hr⟩ : ∃ r, r = pkBad epoch frm number n := ⟨_, rfl⟩
      have hput := fun W3 (hb : Below w.heap.size w W3) => putPacket_any sum epoch frm number A n c w.heap.size text W3 HS.out e1 e2 f1 f2 n1 n2 ((HR.out.below (hb.mono hB')).more hB') hb.size HN.out hy
      simp only [← hr] at hput
      have HPut := Lib.hid hput
      have HRb := Lib.hid hr
      clear hput hr
      go_enter Try.func62, Try.ntmps62
      go_wp2_with (generalize hW3 : World.alloc (World.alloc (World.alloc w _) _) _ = W3; have hf3 := HF.out W3 hW3; clear hW3; obtain ⟨hp3, hz3, hn3, hb3, hs3⟩ := hf3; have HP3 := Lib.hid hp3; have HZ3 := Lib.hid hz3; have HN3 := Lib.hid hn3; have HB3 := Lib.hid hb3; clear hp3 hz3 hn3 hb3; refine wpList_load_mid rfl 26 (.tmp 6) rfl w.heap.size 0 rfl (packetC sum epoch frm number A n c) _ (Blk.whole HP3.out) Try.underlying26 rfl (by rw [packetC_len _ _ _ _ _ _ _ HS.out]; exact infoPacket) ?_)
      refine (HPut.out W3 HB3.out).mono ?_
      rintro e w4 ⟨v4, rfl, ho4, hb4⟩
      have HZ4 := Lib.hid (HZ3.out.below hb4 (by omega))
      have HN4 := Lib.hid (HN3.out.below hb4 (by omega))
      have HP4 := Lib.hid (HP3.out.below hb4 (by omega))
      have HB4 := Lib.hid (HB3.out.trans (hb4.mono (by omega)))
      have hz4 : W3.heap.size ≤ w4.heap.size := hb4.size
      cases r with
      | true =>
        have hq0 : q = false := by rw [HQ.out]; unfold pkGood; rw [HN.out, ← HRb.out]; simp
        subst hq0
        rw [if_pos rfl, errV_pos (by simp)]
        clear ho4 hb4
        go_wp2_with (first
          | (refine wpList_load_mid rfl 26 (.tmp 10) rfl (w.heap.size + 1 + 1) 0 rfl (packetC zero32 0 0 0 none 0 0) _ (Blk.whole HN4.out) Try.underlying26 rfl (by rw [packetC_len _ _ _ _ _ _ _ zero32_len]; exact infoPacket) ?_)
          | (refine wpList_store_blk rfl 26 _ _ rfl (w.heap.size + 1) rfl (packetC zero32 0 0 0 none 0 0) rfl _ _ HZ4.out rfl (by rw [packetC_len _ _ _ _ _ _ _ zero32_len]; exact infoPacket) (packetC_one _ _ _ _ _ _ _) ?_; intro w6 hp6 hg6; have HP6 := Lib.hid hp6; have HG6 := Lib.hid hg6; clear hp6 hg6))
        refine bodyPost_ret (v := .tuple #[.agg (packetC zero32 0 0 0 none 0 0).toArray, .iface 108 (.int .i64 3)]) (results_blk_tmp (g := w.heap.size + 1) rfl _ _ _ _ _ _ rfl rfl HP6.out Try.underlying26 rfl (by rw [packetC_len _ _ _ _ _ _ _ zero32_len]; exact infoPacket)) rfl ?_
        exact ⟨rfl, HB4.out.grown HG6.out (by omega) (fun k e => by cases e; omega)⟩
      | false =>
        rw [if_neg (by simp)] at ho4
        rw [if_neg (by simp), errV_zero]
        obtain ⟨A4, c4, rfl, hr4, -, -, -⟩ := ho4.shape
        have HR4 := Lib.hid hr4
        clear ho4 hb4 hr4
        go_wp2_with fail
        have heq := equal_any (B1 := B0) (B2 := w4.heap.size) (c1 := c0) (c2 := c4) (HBs.out.below (HB4.out.mono hB0)) HR4.out HN0.out rfl (by omega) (Nat.le_refl _) (by omega)
        obtain ⟨y, hy'⟩ : ∃ y, y = (bs == pkBytes sum epoch frm number text) := ⟨_, rfl⟩
        rw [← hy'] at heq
        have HEq := Lib.hid heq
        have HYy := Lib.hid hy'
        clear heq hy'
        refine HEq.out.mono ?_
        rintro e w5 ⟨rfl, hb5⟩
        have hz5 : w4.heap.size ≤ w5.heap.size := hb5.size
        have HZ4 := Lib.hid (HZ4.out.below hb5 (by omega))
        have HN4 := Lib.hid (HN4.out.below hb5 (by omega))
        have HP4 := Lib.hid (HP4.out.below hb5 (by omega))
        have HB4 := Lib.hid (HB4.out.trans (hb5.mono (by omega)))
        clear hb5
        cases y with
        | false =>
          have hq0 : q = false := by rw [HQ.out]; unfold pkGood; rw [← HYy.out]; simp
          subst hq0
          go_wp2_with (first
            | (refine wpList_load_mid rfl 26 (.tmp 10) rfl (w.heap.size + 1 + 1) 0 rfl (packetC zero32 0 0 0 none 0 0) _ (Blk.whole HN4.out) Try.underlying26 rfl (by rw [packetC_len _ _ _ _ _ _ _ zero32_len]; exact infoPacket) ?_)
            | (refine wpList_store_blk rfl 26 _ _ rfl (w.heap.size + 1) rfl (packetC zero32 0 0 0 none 0 0) rfl _ _ HZ4.out rfl (by rw [packetC_len _ _ _ _ _ _ _ zero32_len]; exact infoPacket) (packetC_one _ _ _ _ _ _ _) ?_; intro w6 hp6 hg6; have HP6 := Lib.hid hp6; have HG6 := Lib.hid hg6; clear hp6 hg6))
          refine bodyPost_ret (v := .tuple #[.agg (packetC zero32 0 0 0 none 0 0).toArray, .iface 108 (.int .i64 3)]) (results_blk_tmp (g := w.heap.size + 1) rfl _ _ _ _ _ _ rfl rfl HP6.out Try.underlying26 rfl (by rw [packetC_len _ _ _ _ _ _ _ zero32_len]; exact infoPacket)) rfl ?_
          exact ⟨rfl, HB4.out.grown HG6.out (by omega) (fun k e => by cases e; omega)⟩
        | true =>
          have hq0 : q = true := by rw [HQ.out]; unfold pkGood; rw [← HYy.out, HN.out, ← HRb.out]; rfl
          subst hq0
          go_wp2_with (first
            | (refine wpList_load_mid rfl 26 (.tmp 6) rfl w.heap.size 0 rfl (packetC sum epoch frm number A n c) _ (Blk.whole HP4.out) Try.underlying26 rfl (by rw [packetC_len _ _ _ _ _ _ _ HS.out]; exact infoPacket) ?_)
            | (refine wpList_store_blk rfl 26 _ _ rfl (w.heap.size + 1) rfl (packetC sum epoch frm number A n c) rfl _ _ HZ4.out (by rw [packetC_len _ _ _ _ _ _ _ zero32_len, packetC_len _ _ _ _ _ _ _ HS.out]) (by rw [packetC_len _ _ _ _ _ _ _ HS.out]; exact infoPacket) (packetC_one _ _ _ _ _ _ _) ?_; intro w6 hp6 hg6; have HP6 := Lib.hid hp6; have HG6 := Lib.hid hg6; clear hp6 hg6))
          refine bodyPost_ret (v := .tuple #[.agg (packetC sum epoch frm number A n c).toArray, .nilIface]) (results_blk_tmp (g := w.heap.size + 1) rfl _ _ _ _ _ _ rfl rfl HP6.out Try.underlying26 rfl (by rw [packetC_len _ _ _ _ _ _ _ HS.out]; exact infoPacket)) rfl ?_
          exact ⟨rfl, HB4.out.grown HG6.out (by omega) (fun k e => by cases e; omega)⟩
    · have hl : (0 : Int) < (rest.length : Int) := by have := List.length_pos_iff.2 hrest; omega
      have hq0 : q = false := by rw [HQ.out]; unfold pkGood; cases rest with
        | nil => exact absurd rfl hrest
        | cons x xs => simp
      subst hq0
      clear hrest
      go_enter Try.func62, Try.ntmps62
      go_wp2_with (first
        | (generalize hW3 : World.alloc (World.alloc (World.alloc w _) _) _ = W3; have hf3 := HF.out W3 hW3; clear hW3; obtain ⟨hp3, hz3, hn3, hb3, hs3⟩ := hf3; have HZ3 := Lib.hid hz3; have HN3 := Lib.hid hn3; have HB3 := Lib.hid hb3; clear hp3 hz3 hn3 hb3; refine wpList_load_mid rfl 26 (.tmp 10) rfl (w.heap.size + 1 + 1) 0 rfl (packetC zero32 0 0 0 none 0 0) _ (Blk.whole HN3.out) Try.underlying26 rfl (by rw [packetC_len _ _ _ _ _ _ _ zero32_len]; exact infoPacket) ?_)
        | (refine wpList_store_blk rfl 26 _ _ rfl (w.heap.size + 1) rfl (packetC zero32 0 0 0 none 0 0) rfl _ _ HZ3.out rfl (by rw [packetC_len _ _ _ _ _ _ _ zero32_len]; exact infoPacket) (packetC_one _ _ _ _ _ _ _) ?_; intro w4 hp4 hg4; have HP4 := Lib.hid hp4; have HG4 := Lib.hid hg4; clear hp4 hg4))
      refine bodyPost_ret (v := .tuple #[.agg (packetC zero32 0 0 0 none 0 0).toArray, .iface 108 (.int .i64 3)]) (results_blk_tmp (g := w.heap.size + 1) rfl _ _ _ _ _ _ rfl rfl HP4.out Try.underlying26 rfl (by rw [packetC_len _ _ _ _ _ _ _ zero32_len]; exact infoPacket)) rfl ?_
      exact ⟨rfl, HB3.out.grown HG4.out (by omega) (fun k e => by cases e; omega)⟩
end Go.Proofs.Ytloglpamnalmeaa

/- CONTRACT: wire.TakePacket. -/
namespace Go.Proofs.Ytloglpamnalmeaa
open Go.RowKit
set_option linter.unusedVariables false
set_option linter.unusedSimpArgs false

theorem list32 {α : Type} {xs : List α} (h : xs.length = 32) : ∃ x0 x1 x2 x3 x4 x5 x6 x7 x8 x9 x10 x11 x12 x13 x14 x15 x16 x17 x18 x19 x20 x21 x22 x23 x24 x25 x26 x27 x28 x29 x30 x31, xs = [x0, x1, x2, x3, x4, x5, x6, x7, x8, x9, x10, x11, x12, x13, x14, x15, x16, x17, x18, x19, x20, x21, x22, x23, x24, x25, x26, x27, x28, x29, x30, x31] :=
  match xs, h with
  | [x0, x1, x2, x3, x4, x5, x6, x7, x8, x9, x10, x11, x12, x13, x14, x15, x16, x17, x18, x19, x20, x21, x22, x23, x24, x25, x26, x27, x28, x29, x30, x31], _ => ⟨x0, x1, x2, x3, x4, x5, x6, x7, x8, x9, x10, x11, x12, x13, x14, x15, x16, x17, x18, x19, x20, x21, x22, x23, x24, x25, x26, x27, x28, x29, x30, x31, rfl⟩
set_option maxRecDepth 100000 in
theorem built_packet (sum : List (BitVec 8)) (epoch frm number : Int) (A : Option Addr) (n c : Nat) (hs : sum.length = 32) :
    Try.prog.built 26 [(0, .agg (sum.map b8).toArray), (1, .int .i64 epoch), (2, .int .i64 frm), (3, .int .i64 number), (4, .slice A n c)] = some (packetC sum epoch frm number A n c).toArray := by
  obtain ⟨x0, x1, x2, x3, x4, x5, x6, x7, x8, x9, x10, x11, x12, x13, x14, x15, x16, x17, x18, x19, x20, x21, x22, x23, x24, x25, x26, x27, x28, x29, x30, x31, rfl⟩ := list32 hs
  kernel_rfl

/-- a value is built from parts -/
theorem wpList_build_at {P : Program} {ops : Array Oper} {rest : List Oper} {op : Oper} {a : Act} {w : World} {Q : Exit → Act → World → Prop} (hgd : op.guard = none) (t : TypeId) (parts : List (Nat × Operand)) (ho : op.op = .build t parts.toArray)
    (cells : Array Value) (vals : List (Nat × Value)) (hv : parts.map (fun x => (x.1, a.eval x.2)) = vals) (hb : P.built t vals = some cells) (h : wpList P ops Q rest (a.put op.dst (.agg cells)) w) : wpList P ops Q (op :: rest) a w := by
  refine wpList_plain hgd fun K hK => ?_
  have hr := run_build (P := P) w t vals.toArray cells hb
  rw [← hv, ← List.map_toArray] at hr
  unfold Oper.wp execOp
  simp only [ho]
  have e : (parts.toArray.map fun (i, x) => (i, a.eval x)) = parts.toArray.map (fun x => (x.1, a.eval x.2)) := rfl
  rw [e]
  simp only [Sem.run_bind, Sem.run_pure, Result.andThen_ok, hr, Oper.upon_value]
  exact hK _ _ h
/-- what bytes are read as -/
structure Parsed where
  sum : List (BitVec 8)
  epoch : Nat
  frm : Nat
  number : Nat
  text : List (BitVec 8)
  rest : List (BitVec 8)
  bad : Bool
def parsePk (bs : List (BitVec 8)) : Parsed :=
  let r1 := tkR 32 bs
  let r2 := tkR 4 r1
  let r3 := tkR 1 r2
  let r4 := tkR 4 r3
  let r5 := tkR 2 r4
  let l := beVal (tkO 2 r4)
  ⟨tkO 32 bs, beVal (tkO 4 r1), beVal (tkO 1 r2), beVal (tkO 4 r3), tkO l r5, tkR l r5, tkB l r5 (tkB 2 r4 (tkB 4 r3 (tkB 1 r2 (tkB 4 r1 (tkB 32 bs false)))))⟩
def goodPk (bs : List (BitVec 8)) : Bool := pkGood (parsePk bs).bad (parsePk bs).rest bs (parsePk bs).sum (parsePk bs).epoch (parsePk bs).frm (parsePk bs).number (parsePk bs).text

set_option maxRecDepth 100000 in
set_option maxHeartbeats 4000000 in
theorem takePacket_any {w : World} {B' : Nat} {A : Option Addr} {n c : Nat} {bs : List (BitVec 8)} (hr : Rd b8 w B' A bs) (hB' : B' ≤ w.heap.size) (hn : bs.length = n) (hnc : n ≤ c) (hy : n ≤ 1000000) :
    Calls Try.prog 16 #[.slice A n c] w fun e w' => Below w.heap.size w w' ∧
      ((goodPk bs = true ∧ ∃ A2 c2, e = .returned (.tuple #[.agg (packetC (parsePk bs).sum (parsePk bs).epoch (parsePk bs).frm (parsePk bs).number A2 (parsePk bs).text.length c2).toArray, .nilIface]) ∧ Own b8 w' w.heap.size 5 (.slice A2 (parsePk bs).text.length c2) (parsePk bs).text) ∨
       (goodPk bs = false ∧ e = .returned (.tuple #[.agg (packetC zero32 0 0 0 none 0 0).toArray, .iface 108 (.int .i64 3)]))) := by
  have HR := Lib.hid hr
  have HN := Lib.hid hn
  obtain ⟨S, hS⟩ : ∃ S, S = tkO 32 bs := ⟨_, rfl⟩
  obtain ⟨r1, hr1⟩ : ∃ r, r = tkR 32 bs := ⟨_, rfl⟩
  obtain ⟨d1, hd1⟩ : ∃ d, d = tkB 32 bs false := ⟨_, rfl⟩
  obtain ⟨E, hE⟩ : ∃ E, E = beVal (tkO 4 r1) := ⟨_, rfl⟩
  obtain ⟨r2, hr2⟩ : ∃ r, r = tkR 4 r1 := ⟨_, rfl⟩
  obtain ⟨d2, hd2⟩ : ∃ d, d = tkB 4 r1 d1 := ⟨_, rfl⟩
  obtain ⟨F, hF⟩ : ∃ F, F = beVal (tkO 1 r2) := ⟨_, rfl⟩
  obtain ⟨r3, hr3⟩ : ∃ r, r = tkR 1 r2 := ⟨_, rfl⟩
  obtain ⟨d3, hd3⟩ : ∃ d, d = tkB 1 r2 d2 := ⟨_, rfl⟩
  obtain ⟨N, hNN⟩ : ∃ N, N = beVal (tkO 4 r3) := ⟨_, rfl⟩
  obtain ⟨r4, hr4⟩ : ∃ r, r = tkR 4 r3 := ⟨_, rfl⟩
  obtain ⟨d4, hd4⟩ : ∃ d, d = tkB 4 r3 d3 := ⟨_, rfl⟩
  obtain ⟨T, hT⟩ : ∃ T, T = tkO (beVal (tkO 2 r4)) (tkR 2 r4) := ⟨_, rfl⟩
  obtain ⟨R, hRR⟩ : ∃ R, R = tkR (beVal (tkO 2 r4)) (tkR 2 r4) := ⟨_, rfl⟩
  obtain ⟨D, hD⟩ : ∃ D, D = tkB (beVal (tkO 2 r4)) (tkR 2 r4) (tkB 2 r4 d4) := ⟨_, rfl⟩
  have hpp : parsePk bs = ⟨S, E, F, N, T, R, D⟩ := by subst hD hRR hT hd4 hr4 hNN hd3 hr3 hF hd2 hr2 hE hd1 hr1 hS; rfl
  have hgg : goodPk bs = pkGood D R bs S E F N T := by unfold goodPk; rw [hpp]
  rw [hpp, hgg]
  obtain ⟨q, hq⟩ : ∃ q, q = pkGood D R bs S E F N T := ⟨_, rfl⟩
  rw [← hq]
  have HQ := Lib.hid hq
  have hSl : S.length = 32 := by rw [hS]; exact tkO_len _ _
  have hE4 : E < 4294967296 := by rw [hE]; exact beVal_lt 4 _ (tkO_len _ _)
  have hF1 : F < 256 := by rw [hF]; exact beVal_lt 1 _ (tkO_len _ _)
  have hN4 : N < 4294967296 := by rw [hNN]; exact beVal_lt 4 _ (tkO_len _ _)
  have hTl : T.length < 65536 := by rw [hT, tkO_len]; exact beVal_lt 2 _ (tkO_len _ _)
  have hl1 : r1.length ≤ bs.length := by rw [hr1]; exact tkR_le _ _
  have hl2 : r2.length ≤ r1.length := by rw [hr2]; exact tkR_le _ _
  have hl3 : r3.length ≤ r2.length := by rw [hr3]; exact tkR_le _ _
  have hl4 : r4.length ≤ r3.length := by rw [hr4]; exact tkR_le _ _
  have hb0 : bs.length ≤ 1000000 := by rw [hn]; exact hy
  have HC1 := Lib.hid (fun (W : World) (h : Eye W w.heap.size (w.heap.size + 1) bs false) => (show Calls Try.prog 59 #[.pointer (some ⟨w.heap.size + 1, 0, none⟩)] W fun e w' => e = .returned (.agg (S.map b8).toArray) ∧ Eye w' w.heap.size (w.heap.size + 1) r1 d1 ∧ W.grownBy w' (some (w.heap.size + 1)) by have := sumE_any h (by omega); rw [arrV_mk, ← hS, ← hr1, ← hd1] at this; exact this))
  have HC2 := Lib.hid (fun (W : World) (h : Eye W w.heap.size (w.heap.size + 1) r1 d1) => (show Calls Try.prog 60 #[.pointer (some ⟨w.heap.size + 1, 0, none⟩), .int .i64 4] W fun e w' => e = .returned (.int .i64 (E : Int)) ∧ Eye w' w.heap.size (w.heap.size + 1) r2 d2 ∧ W.grownBy w' (some (w.heap.size + 1)) by have := numE_any h 4 4 rfl (by omega) (by omega); rw [← hE, ← hr2, ← hd2] at this; exact this))
  have HC3 := Lib.hid (fun (W : World) (h : Eye W w.heap.size (w.heap.size + 1) r2 d2) => (show Calls Try.prog 60 #[.pointer (some ⟨w.heap.size + 1, 0, none⟩), .int .i64 1] W fun e w' => e = .returned (.int .i64 (F : Int)) ∧ Eye w' w.heap.size (w.heap.size + 1) r3 d3 ∧ W.grownBy w' (some (w.heap.size + 1)) by have := numE_any h 1 1 rfl (by omega) (by omega); rw [← hF, ← hr3, ← hd3] at this; exact this))
  have HC4 := Lib.hid (fun (W : World) (h : Eye W w.heap.size (w.heap.size + 1) r3 d3) => (show Calls Try.prog 60 #[.pointer (some ⟨w.heap.size + 1, 0, none⟩), .int .i64 4] W fun e w' => e = .returned (.int .i64 (N : Int)) ∧ Eye w' w.heap.size (w.heap.size + 1) r4 d4 ∧ W.grownBy w' (some (w.heap.size + 1)) by have := numE_any h 4 4 rfl (by omega) (by omega); rw [← hNN, ← hr4, ← hd4] at this; exact this))
  have HC5 := Lib.hid (fun (W : World) (h : Eye W w.heap.size (w.heap.size + 1) r4 d4) => (show Calls Try.prog 61 #[.pointer (some ⟨w.heap.size + 1, 0, none⟩)] W fun e w' => ∃ v, e = .returned v ∧ Own b8 w' W.heap.size 5 v T ∧ Eye w' w.heap.size (w.heap.size + 1) R D ∧ W.grownBy w' (some (w.heap.size + 1)) by have := rowE_any h (by omega); rw [← hT, ← hRR, ← hD] at this; exact this))
  have HBu := Lib.hid (fun A n c => built_packet S E F N A n c hSl)
  have HSl := Lib.hid hSl
  clear hS hr1 hd1 hE hr2 hd2 hF hr3 hd3 hNN hr4 hd4 hT hRR hD hpp hgg hq hSl hl1 hl2 hl3 hl4 hb0
  have HF := Lib.hid (show ∀ W1, (w.alloc (.cells (packetC zero32 0 0 0 none 0 0).toArray 26)).alloc (.cells #[.slice A n c, .bool false] 121) = W1 →
      PkBox W1 w.heap.size zero32 0 0 0 none 0 0 ∧ Eye W1 w.heap.size (w.heap.size + 1) bs false ∧ Below w.heap.size w W1 ∧ W1.heap.size = w.heap.size + 2 by
    rintro W1 rfl
    have hb : Below w.heap.size w ((w.alloc (.cells (packetC zero32 0 0 0 none 0 0).toArray 26)).alloc (.cells #[.slice A n c, .bool false] 121)) := ((Below.refl _ _).alloc (Nat.le_refl _) _).alloc (by simp) _
    refine ⟨Blk.alloc (Blk.new w _ _) _, ⟨⟨A, c, ?_, (HR.out.below (hb.mono hB')).more hB', by rw [HN.out]; exact hnc⟩, by omega⟩, hb, by simp⟩
    rw [HN.out]
    exact Blk.at_size _ [.slice A n c, .bool false] (by simp))
  clear hr hn
  go_enter Try.func16, Try.ntmps16
  go_wp2_with fail
  generalize hW1 : World.alloc (World.alloc w _) _ = W1
  obtain ⟨hp1, he1, hb1, hz1⟩ := HF.out W1 hW1
  clear hW1 HF
  have HP1 := Lib.hid hp1
  have HE1 := Lib.hid he1
  have HB1 := Lib.hid hb1
  clear hp1 he1 hb1
  have H1p := HP1
  have H1b := HB1
  refine (HC1.out _ HE1.out).mono ?_
  rintro e w2 ⟨rfl, he2, hg2⟩
  have hz2 : W1.heap.size ≤ w2.heap.size := hg2.size
  have HE2 := Lib.hid he2
  have HP2 := Lib.hid (show PkBox w2 w.heap.size zero32 0 0 0 none 0 0 from Blk.grown H1p.out hg2 (by intro e; have := Option.some.inj e; omega))
  have HB2 := Lib.hid (H1b.out.trans (below_grown hg2 (by omega) (by omega)) : Below w.heap.size w w2)
  clear he2 hg2
  go_wp2_with fail
  have H2p := HP2
  have H2b := HB2
  refine (HC2.out _ HE2.out).mono ?_
  rintro e w3 ⟨rfl, he3, hg3⟩
  have hz3 : w2.heap.size ≤ w3.heap.size := hg3.size
  have HE3 := Lib.hid he3
  have HP3 := Lib.hid (show PkBox w3 w.heap.size zero32 0 0 0 none 0 0 from Blk.grown H2p.out hg3 (by intro e; have := Option.some.inj e; omega))
  have HB3 := Lib.hid (H2b.out.trans (below_grown hg3 (by omega) (by omega)) : Below w.heap.size w w3)
  clear he3 hg3
  go_wp2_with fail
  have H3p := HP3
  have H3b := HB3
  refine (HC3.out _ HE3.out).mono ?_
  rintro e w4 ⟨rfl, he4, hg4⟩
  have hz4 : w3.heap.size ≤ w4.heap.size := hg4.size
  have HE4 := Lib.hid he4
  have HP4 := Lib.hid (show PkBox w4 w.heap.size zero32 0 0 0 none 0 0 from Blk.grown H3p.out hg4 (by intro e; have := Option.some.inj e; omega))
  have HB4 := Lib.hid (H3b.out.trans (below_grown hg4 (by omega) (by omega)) : Below w.heap.size w w4)
  clear he4 hg4
  go_wp2_with fail
  have H4p := HP4
  have H4b := HB4
  refine (HC4.out _ HE4.out).mono ?_
  rintro e w5 ⟨rfl, he5, hg5⟩
  have hz5 : w4.heap.size ≤ w5.heap.size := hg5.size
  have HE5 := Lib.hid he5
  have HP5 := Lib.hid (show PkBox w5 w.heap.size zero32 0 0 0 none 0 0 from Blk.grown H4p.out hg5 (by intro e; have := Option.some.inj e; omega))
  have HB5 := Lib.hid (H4b.out.trans (below_grown hg5 (by omega) (by omega)) : Below w.heap.size w w5)
  clear he5 hg5
  go_wp2_with fail
  refine (HC5.out _ HE5.out).mono ?_
  rintro e w6 ⟨v6, rfl, ho6, he6, hg6⟩
  obtain ⟨A6, c6, rfl, hr6, -, hc6, -⟩ := ho6.shape' (n := T.length) rfl
  have hz6 : w5.heap.size ≤ w6.heap.size := hg6.size
  have HE6 := Lib.hid he6
  have HO6 := Lib.hid ho6
  have HP6 := Lib.hid (show PkBox w6 w.heap.size zero32 0 0 0 none 0 0 from Blk.grown HP5.out hg6 (by intro e; have := Option.some.inj e; omega))
  have HB6 := Lib.hid (HB5.out.trans (below_grown hg6 (by omega) (by omega)) : Below w.heap.size w w6)
  clear ho6 he6 hg6 hr6 HE1 HE2 HE3 HE4 HE5 HP1 HP2 HP3 HP4 HP5 HB1 HB2 HB3 HB4 HB5 H1p H1b H2p H2b H3p H3b H4p H4b HC1 HC2 HC3 HC4 HC5
  have HZ6 := Lib.hid (show Blk (w6.alloc (.cells (packetC zero32 0 0 0 none 0 0).toArray 26)) w6.heap.size 26 (packetC zero32 0 0 0 none 0 0) from Blk.new w6 _ _)
  have HPl := Lib.hid (packetC_len S E F N A6 T.length c6 HSl.out)
  have HP6a := Lib.hid (show PkBox (w6.alloc (.cells (packetC zero32 0 0 0 none 0 0).toArray 26)) w.heap.size zero32 0 0 0 none 0 0 from Blk.alloc HP6.out _)
  have HB6a := Lib.hid (HB6.out.alloc HB6.out.size (.cells (packetC zero32 0 0 0 none 0 0).toArray 26))
  have HE6a := Lib.hid (HE6.out.below ((Below.refl w6.heap.size w6).alloc (Nat.le_refl _) (.cells (packetC zero32 0 0 0 none 0 0).toArray 26)) (Nat.le_refl _))
  have HO6a := Lib.hid (HO6.out.alloc (.cells (packetC zero32 0 0 0 none 0 0).toArray 26))
  have hl6 : w.heap.size + 2 ≤ w6.heap.size := by omega
  have hne : (Value.slice A6 T.length c6).ownBlock ≠ some w6.heap.size := fun e => by have := (HO6.out.lt _ e).2; omega
  clear HP6 HB6 HE6 HO6
  go_wp2_with (first
    | (refine wpList_build_at rfl 26 [(0, .tmp 10), (1, .tmp 12), (2, .tmp 14), (3, .tmp 16), (4, .tmp 18)] rfl _ _ rfl (HBu.out A6 T.length c6) ?_)
    | (refine wpList_store_blk rfl 26 _ _ rfl w6.heap.size rfl (packetC S E F N A6 T.length c6) rfl _ _ HZ6.out (by rw [packetC_len _ _ _ _ _ _ _ zero32_len, HPl.out]) (by rw [HPl.out]; exact infoPacket) (packetC_one _ _ _ _ _ _ _) ?_; intro w7 hp7 hg7; have HP7 := Lib.hid hp7; have HG7 := Lib.hid hg7; clear hp7 hg7)
    | (refine wpList_load_mid rfl 26 (.tmp 5) rfl w6.heap.size 0 rfl (packetC S E F N A6 T.length c6) _ (Blk.whole HP7.out) Try.underlying26 rfl (by rw [HPl.out]; exact infoPacket) ?_))
  have hz7 : w6.heap.size + 1 ≤ w7.heap.size := by have := HG7.out.size; simpa using this
  have HE7 := Lib.hid (eye_grown HE6a.out HG7.out (by omega) (by omega))
  have HB7 := Lib.hid (HB6a.out.grown HG7.out (by simp; omega) (fun k e => by cases e; omega))
  have HP7b := Lib.hid (show PkBox w7 w.heap.size zero32 0 0 0 none 0 0 from Blk.grown HP6a.out HG7.out (by intro e; have := Option.some.inj e; omega))
  have HO7 := Lib.hid (HO6a.out.kept HG7.out (.inr hne))
  have hck := checkPk_any HE7.out (c0 := c) (HR.out.below (HB7.out.mono hB')) (by omega) HN.out hy S E F N A6 T.length c6 w7.heap.size T HSl.out (by omega) (by omega) (by omega) (by omega) (by omega) (by omega) HO7.out.rd (Nat.le_refl _) rfl (by omega)
  rw [← HQ.out] at hck
  have HCk := Lib.hid hck
  clear hck HZ6 HP6a HB6a HE6a HO6a HP7 HG7 HE7
  have hz7' : w.heap.size + 3 ≤ w7.heap.size := by omega
  cases q with
  | true =>
    rw [if_pos rfl] at HCk
    refine HCk.out.mono ?_
    rintro e w8 ⟨rfl, hb8⟩
    have HP8 := Lib.hid (HP7b.out.below hb8 (by omega))
    have HB8 := Lib.hid (HB7.out.trans (hb8.mono (by omega)))
    have HO8 := Lib.hid (HO7.out.below hb8 (Nat.le_refl _))
    have hne8 : (Value.slice A6 T.length c6).ownBlock ≠ some w.heap.size := fun e => by have := (HO8.out.lt _ e).1; omega
    have hz8 : w7.heap.size ≤ w8.heap.size := hb8.size
    clear hb8
    go_wp2_with (refine wpList_store_blk rfl 26 _ _ rfl w.heap.size rfl (packetC S E F N A6 T.length c6) rfl _ _ HP8.out (by rw [packetC_len _ _ _ _ _ _ _ zero32_len, HPl.out]) (by rw [HPl.out]; exact infoPacket) (packetC_one _ _ _ _ _ _ _) ?_; intro w9 hp9 hg9; have HP9 := Lib.hid hp9; have HG9 := Lib.hid hg9; clear hp9 hg9)
    refine bodyPost_ret (v := .tuple #[.agg (packetC S E F N A6 T.length c6).toArray, .nilIface]) (results_blk_tmp (g := w.heap.size) rfl _ _ _ _ _ _ rfl rfl HP9.out Try.underlying26 rfl (by rw [HPl.out]; exact infoPacket)) rfl ?_
    exact ⟨HB8.out.grown HG9.out (by omega) (fun k e => by cases e; omega), ⟨A6, c6, rfl, (HO8.out.kept HG9.out (.inr hne8)).less (by omega)⟩⟩
  | false =>
    rw [if_neg (by simp)] at HCk
    refine HCk.out.mono ?_
    rintro e w8 ⟨rfl, hb8⟩
    have HP8 := Lib.hid (HP7b.out.below hb8 (by omega))
    have HB8 := Lib.hid (HB7.out.trans (hb8.mono (by omega)))
    have HO8 := Lib.hid (HO7.out.below hb8 (Nat.le_refl _))
    have hne8 : (Value.slice A6 T.length c6).ownBlock ≠ some w.heap.size := fun e => by have := (HO8.out.lt _ e).1; omega
    have hz8 : w7.heap.size ≤ w8.heap.size := hb8.size
    clear hb8
    go_wp2_with (refine wpList_store_blk rfl 26 _ _ rfl w.heap.size rfl (packetC zero32 0 0 0 none 0 0) rfl _ _ HP8.out rfl (by rw [packetC_len _ _ _ _ _ _ _ zero32_len]; exact infoPacket) (packetC_one _ _ _ _ _ _ _) ?_; intro w9 hp9 hg9; have HP9 := Lib.hid hp9; have HG9 := Lib.hid hg9; clear hp9 hg9)
    refine bodyPost_ret (v := .tuple #[.agg (packetC zero32 0 0 0 none 0 0).toArray, .iface 108 (.int .i64 3)]) (results_blk_tmp (g := w.heap.size) rfl _ _ _ _ _ _ rfl rfl HP9.out Try.underlying26 rfl (by rw [packetC_len _ _ _ _ _ _ _ zero32_len]; exact infoPacket)) rfl ?_
    exact ⟨HB8.out.grown HG9.out (by omega) (fun k e => by cases e; omega), rfl⟩
end Go.Proofs.Ytloglpamnalmeaa
