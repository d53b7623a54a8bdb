/- WireShort, the walk and the opener. -/
import Derived.Test.YtloglpamnalmeaaShort
import Derived.Test.YtloglpamnalmeaaOpenComm
namespace Go.Proofs.Ytloglpamnalmeaa
open Go.ChangeShapes Go.WideShapes Go.ChangeAt Go.RowKit
set_option linter.unusedVariables false
set_option linter.unusedSimpArgs false

/-- the argument's cells -/
def shortC (x : CommT) (sum : List (BitVec 8)) (epoch frm number : Int) (A : Option Addr) (m c : Nat) (at' : Int) (more : BitVec 8) : List Value :=
  commC x ++ (packetC sum epoch frm number A m c ++ [.int .i64 at', .int .u8 (bv more)])
set_option maxRecDepth 100000 in
set_option maxHeartbeats 1000000 in
theorem wireShort_walk {w : World} (x : CommT) (hr : RdC0 w w.heap.size x) (sum : List (BitVec 8)) (epoch frm number : Int) (A : Option Addr) (m c : Nat) (text : List (BitVec 8)) (at' : Int) (more : BitVec 8) (hs : sum.length = 32) (we : (Lit.int .i64 epoch).wf = true) (wf : (Lit.int .i64 frm).wf = true) (wn : (Lit.int .i64 number).wf = true)
    (ht : Rd b8 w w.heap.size A text) (hm : text.length = m) (hmc : m ≤ c) (hc : c ≤ maxLen) :
    Calls Try.prog 10 #[.agg (shortC x sum epoch frm number A m c at' more).toArray] w fun e w' => e = .returned (.bool true) ∧ Below w.heap.size w w' := by
  have HBx := Lib.hid (Blk.new w 90 (shortC x sum epoch frm number A m c at' more))
  have HB0 := Lib.hid ((Below.refl w.heap.size w).alloc (Nat.le_refl _) (.cells (shortC x sum epoch frm number A m c at' more).toArray 90))
  have hl1 := commC_len hr.len
  have hl2 := packetC_len sum epoch frm number A m c hs
  have HXl := Lib.hid hl1
  have HPl := Lib.hid hl2
  have r0 := Lib.hid (HBx.out.piece (o := 0) (pre := []) (mid := commC x) (post := packetC sum epoch frm number A m c ++ [.int .i64 at', .int .u8 (bv more)]) rfl rfl)
  have r1 := Lib.hid (HBx.out.piece (o := 263) (pre := commC x) (mid := packetC sum epoch frm number A m c) (post := [.int .i64 at', .int .u8 (bv more)]) rfl hl1)
  have c299 := HBx.out.one (o := 299) (pre := commC x ++ packetC sum epoch frm number A m c) (u := .int .i64 at') (post := [.int .u8 (bv more)]) (by simp [shortC]) (by simp [hl1, hl2])
  have c300 := HBx.out.one (o := 300) (pre := commC x ++ (packetC sum epoch frm number A m c ++ [.int .i64 at'])) (u := .int .u8 (bv more)) (post := []) (by simp [shortC]) (by simp [hl1, hl2])
  have hsz := World.size_alloc w (.cells (shortC x sum epoch frm number A m c at' more).toArray 90)
  have HC := Lib.hid (short_any (B := w.heap.size) x ⟨hr.len, hr.ep, hr.frm, hr.row.below HB0.out, fun t ht => ⟨(hr.el t ht).ok, (hr.el t ht).um.below HB0.out⟩, hr.plen, hr.um.below HB0.out, hr.steps.below HB0.out, hr.slen⟩ HB0.out.size sum epoch frm number A m c text hs we wf wn (ht.below HB0.out) hm hmc hc at' more)
  clear hr ht hm hmc hc we wf wn hs hl1 hl2 HBx
  go_enter Try.func10, Try.ntmps10
  go_wp2_with (first
    | (refine wpList_load_midw (by first | rfl | go_simp) 82 (.tmp 3) rfl w.heap.size 0 rfl (commC x) _ r0.out Try.underlying82 rfl (by rw [HXl.out]; exact infoComm) ?_)
    | (refine wpList_load_midw (by first | rfl | go_simp) 26 (.tmp 5) rfl w.heap.size 263 rfl (packetC sum epoch frm number A m c) _ r1.out Try.underlying26 rfl (by rw [HPl.out]; exact infoPacket) ?_))
  refine HC.out.mono ?_
  rintro e w1 ⟨rfl, hb1⟩
  have HB1 := Lib.hid (HB0.out.trans (hb1.mono HB0.out.size))
  clear hb1 HC
  go_wp2_with fail
  go_ret
  exact ⟨rfl, HB1.out⟩

section
variable {H : Type} {enc : TypeId × Value → H} {w : World} {base : Nat} {spare : Nat → Bool} {held : Bool}
set_option maxRecDepth 100000 in
theorem pk_cells {fuel : Nat} {L : List Value} {x : DataW H × List MemPlace} (hf : DataW.trod enc Try.prog w base spare held fuel 26 L = some x) :
    ∃ (sum : List (BitVec 8)) (epoch frm number : Int) (A : Option Addr) (n c : Nat) (text : List (BitVec 8)), L = packetC sum epoch frm number A n c ∧ sum.length = 32 ∧ (Lit.int .i64 epoch).wf = true ∧ (Lit.int .i64 frm).wf = true ∧ (Lit.int .i64 number).wf = true ∧
      Rd b8 w w.heap.size A text ∧ text.length = n ∧ n ≤ c ∧ c ≤ maxLen := by
  obtain ⟨k, hl, hfd⟩ := field_of Try.underlying26 hf
  have hl36 : L.length = 36 := hl.trans (by kernel_rfl)
  obtain ⟨y0, h0⟩ := hfd 0 _ rfl
  obtain ⟨y1, h1⟩ := hfd 1 _ rfl
  obtain ⟨y2, h2⟩ := hfd 2 _ rfl
  obtain ⟨y3, h3⟩ := hfd 3 _ rfl
  obtain ⟨y4, h4⟩ := hfd 4 _ rfl
  obtain ⟨sum, hs, q0⟩ := open_barray Try.underlying23 Try.underlying5 (by kernel_rfl) (by kernel_rfl) h0
  obtain ⟨epoch, q1, -, wf1⟩ := DataW.trod_int Try.underlying3 h1
  obtain ⟨frm, q2, -, wf2⟩ := DataW.trod_int Try.underlying3 h2
  obtain ⟨number, q3, -, wf3⟩ := DataW.trod_int Try.underlying3 h3
  obtain ⟨A, n, c, q4⟩ := slice_cell Try.underlying24 h4
  rw [q4] at h4
  obtain ⟨text, rd4, ln4, le4, mx4⟩ := open_bytes Try.underlying24 Try.underlying5 (by kernel_rfl) h4
  refine ⟨sum, epoch, frm, number, A, n, c, text, ?_, hs, wf1, wf2, wf3, rd4, ln4, le4, mx4⟩
  have g0 := piece (m := 32) q0 (by kernel_rfl)
  have g1 := piece (m := 33) q1 (by kernel_rfl)
  have g2 := piece (m := 34) q2 (by kernel_rfl)
  have g3 := piece (m := 35) q3 (by kernel_rfl)
  have g4 := piece (m := 36) q4 (by kernel_rfl)
  have e0 : L.drop 0 = sum.map b8 ++ L.drop 32 := g0
  have e1 : L.drop 32 = [.int .i64 epoch] ++ L.drop 33 := g1
  have e2 : L.drop 33 = [.int .i64 frm] ++ L.drop 34 := g2
  have e3 : L.drop 34 = [.int .i64 number] ++ L.drop 35 := g3
  have e4 : L.drop 35 = [.slice A n c] ++ L.drop 36 := g4
  rw [List.drop_eq_nil_of_le (i := 36) (by omega), List.append_nil] at e4
  rw [← List.drop_zero (l := L), e0, e1, e2, e3, e4]
  simp [packetC]
set_option maxRecDepth 100000 in
theorem open_short {r : Reach} {b0 : Nat} {v : Value} {d : DataW H} {p : List MemPlace} (hv : Value.okWide Try.prog w r b0 90 v)
    (h : DataW.Trod enc Try.prog w base spare held 90 v d p) :
    ∃ (x : CommT) (sum : List (BitVec 8)) (epoch frm number : Int) (A : Option Addr) (n c : Nat) (text : List (BitVec 8)) (at' : Int) (more : BitVec 8), v = .agg (shortC x sum epoch frm number A n c at' more).toArray ∧ RdC0 w w.heap.size x ∧ sum.length = 32 ∧ (Lit.int .i64 epoch).wf = true ∧ (Lit.int .i64 frm).wf = true ∧ (Lit.int .i64 number).wf = true ∧
      Rd b8 w w.heap.size A text ∧ text.length = n ∧ n ≤ c ∧ c ≤ maxLen := by
  obtain ⟨cs, rfl, hsz⟩ := okWide_struct Try.underlying90 hv
  obtain ⟨fuel, hf⟩ := h
  obtain ⟨L, rfl⟩ : ∃ L : List Value, cs = L.toArray := ⟨cs.toList, by simp⟩
  obtain ⟨k, hl, hfd⟩ := field_of Try.underlying90 hf
  have hl301 : L.length = 301 := hl.trans (by kernel_rfl)
  obtain ⟨y0, h0⟩ := hfd 0 _ rfl
  obtain ⟨y1, h1⟩ := hfd 1 _ rfl
  obtain ⟨y2, h2⟩ := hfd 2 _ rfl
  obtain ⟨y3, h3⟩ := hfd 3 _ rfl
  obtain ⟨x, q0, hx⟩ := comm_cells h0
  obtain ⟨sum, epoch, frm, number, A, n, c, text, q1, hs, wf1, wf2, wf3, rd4, ln4, le4, mx4⟩ := pk_cells h1
  obtain ⟨at', q2, -, wfa⟩ := DataW.trod_int Try.underlying3 h2
  obtain ⟨mo, q3, -, wfm⟩ := DataW.trod_int Try.underlying5 h3
  obtain ⟨more, rfl⟩ := byte_of wfm
  refine ⟨x, sum, epoch, frm, number, A, n, c, text, at', more, ?_, hx, hs, wf1, wf2, wf3, rd4, ln4, le4, mx4⟩
  have g0 := piece (m := 263) q0 (by kernel_rfl)
  have g1 := piece (m := 299) q1 (by kernel_rfl)
  have g2 := piece (m := 300) q2 (by kernel_rfl)
  have g3 := piece (m := 301) q3 (by kernel_rfl)
  have e0 : L.drop 0 = commC x ++ L.drop 263 := g0
  have e1 : L.drop 263 = packetC sum epoch frm number A n c ++ L.drop 299 := g1
  have e2 : L.drop 299 = [.int .i64 at'] ++ L.drop 300 := g2
  have e3 : L.drop 300 = [.int .u8 (bv more)] ++ L.drop 301 := g3
  rw [List.drop_eq_nil_of_le (i := 301) (by omega), List.append_nil] at e3
  have e : L = shortC x sum epoch frm number A n c at' more := by
    rw [← List.drop_zero (l := L), e0, e1, e2, e3]
    simp [shortC]
  rw [e]
end
end Go.Proofs.Ytloglpamnalmeaa
