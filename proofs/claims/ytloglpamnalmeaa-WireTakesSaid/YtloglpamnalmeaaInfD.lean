/- PLAIN LEMMAS: an info's cells and bytes. CONTRACT: wire.PutInfo. -/
import Derived.Test.YtloglpamnalmeaaPutTree
namespace Go.Proofs.Ytloglpamnalmeaa
open Go.RowKit
set_option linter.unusedVariables false
set_option linter.unusedSimpArgs false

/-- a piece of a block -/
theorem Blk.piece {w : World} {g : Nat} {T : TypeId} {cs : List Value} (h : Blk w g T cs) {pre mid post : List Value} {o : Nat} (e : cs = pre ++ (mid ++ post)) (ho : pre.length = o) : w.rangeAt g o mid := by
  have := h.range o mid.length
  rw [e, ← ho, List.drop_left, List.take_left] at this
  rw [← ho]; exact this
theorem Blk.one {w : World} {g : Nat} {T : TypeId} {cs : List Value} (h : Blk w g T cs) {pre post : List Value} {u : Value} {o : Nat} (e : cs = pre ++ (u :: post)) (ho : pre.length = o) : w.cell? ⟨g, o, none⟩ = some u := h.cell o (by rw [e, ← ho]; simp)
/-- what an info says besides its nodes -/
structure InfD where
  grp : List (BitVec 8)
  ep : Int
  conf : List (BitVec 8)
  tag : List (BitVec 8)
  frm : Int
  sig : List (BitVec 8)
structure InfD.Ok (x : InfD) : Prop where
  grp : x.grp.length = 32
  conf : x.conf.length = 32
  tag : x.tag.length = 32
  sig : x.sig.length = 64
  ep : (Lit.int .i64 x.ep).wf = true
  frm : (Lit.int .i64 x.frm).wf = true
def infC (x : InfD) (A : Option Addr) (n c : Nat) : List Value := x.grp.map b8 ++ (.int .i64 x.ep :: .slice A n c :: (x.conf.map b8 ++ (x.tag.map b8 ++ (.int .i64 x.frm :: x.sig.map b8))))
section
variable {w : World} {g : Nat} {T : TypeId} {x : InfD} {A : Option Addr} {n c : Nat}
theorem infC_len (h : x.Ok) (A : Option Addr) (n c : Nat) : (infC x A n c).length = 163 := by simp [infC, h.grp, h.conf, h.tag, h.sig]
theorem infC_one (x : InfD) (A : Option Addr) (n c : Nat) : ∀ u ∈ infC x A n c, u.oneCell' = true := by
  intro u hu
  simp only [infC, List.mem_append, List.mem_map, List.mem_cons] at hu
  rcases hu with ⟨y, -, rfl⟩ | rfl | rfl | ⟨y, -, rfl⟩ | ⟨y, -, rfl⟩ | rfl | ⟨y, -, rfl⟩ <;> rfl
theorem infC_grp (h : Blk w g T (infC x A n c)) (hx : x.Ok) : w.rangeAt g 0 (x.grp.map b8) := h.piece (pre := []) rfl rfl
theorem infC_ep (h : Blk w g T (infC x A n c)) (hx : x.Ok) : w.cell? ⟨g, 32, none⟩ = some (.int .i64 x.ep) := h.cell 32 (by simp [infC, hx.grp])
theorem infC_nodes (h : Blk w g T (infC x A n c)) (hx : x.Ok) : w.cell? ⟨g, 33, none⟩ = some (.slice A n c) := h.one (pre := x.grp.map b8 ++ [.int .i64 x.ep]) (post := x.conf.map b8 ++ (x.tag.map b8 ++ (.int .i64 x.frm :: x.sig.map b8))) (by simp [infC]) (by simp [hx.grp])
theorem infC_conf (h : Blk w g T (infC x A n c)) (hx : x.Ok) : w.rangeAt g 34 (x.conf.map b8) := h.piece (pre := x.grp.map b8 ++ [.int .i64 x.ep, .slice A n c]) (post := x.tag.map b8 ++ (.int .i64 x.frm :: x.sig.map b8)) (by simp [infC]) (by simp [hx.grp])
theorem infC_tag (h : Blk w g T (infC x A n c)) (hx : x.Ok) : w.rangeAt g 66 (x.tag.map b8) := h.piece (pre := x.grp.map b8 ++ (.int .i64 x.ep :: .slice A n c :: x.conf.map b8)) (post := .int .i64 x.frm :: x.sig.map b8) (by simp [infC]) (by simp [hx.grp, hx.conf])
theorem infC_frm (h : Blk w g T (infC x A n c)) (hx : x.Ok) : w.cell? ⟨g, 98, none⟩ = some (.int .i64 x.frm) := h.one (pre := x.grp.map b8 ++ (.int .i64 x.ep :: .slice A n c :: (x.conf.map b8 ++ x.tag.map b8))) (post := x.sig.map b8) (by simp [infC]) (by simp [hx.grp, hx.conf, hx.tag])
theorem infC_sig (h : Blk w g T (infC x A n c)) (hx : x.Ok) : w.rangeAt g 99 (x.sig.map b8) := h.piece (pre := x.grp.map b8 ++ (.int .i64 x.ep :: .slice A n c :: (x.conf.map b8 ++ (x.tag.map b8 ++ [.int .i64 x.frm])))) (post := []) (by simp [infC]) (by simp [hx.grp, hx.conf, hx.tag])
end
theorem InfD.Ok.ep' {x : InfD} (h : x.Ok) : -9223372036854775808 ≤ x.ep ∧ x.ep < 9223372036854775808 := i64_wf h.ep
theorem InfD.Ok.frm' {x : InfD} (h : x.Ok) : -9223372036854775808 ≤ x.frm ∧ x.frm < 9223372036854775808 := i64_wf h.frm
/-- the zero info -/
def zInf : InfD := ⟨zero32, 0, zero32, zero32, 0, List.replicate 64 0#8⟩
theorem infoInfo : (Try.prog.info? 64).map (·.size) = some 163 := by kernel_rfl
def infB (x : InfD) (ts : List TN) : List (BitVec 8) := x.grp ++ (be x.ep 4 ++ (treeB ts ++ (x.conf ++ (x.tag ++ (be x.frm 1 ++ x.sig)))))
def infBad (x : InfD) (ts : List TN) : Bool := outOf x.ep 4294967295 || treeBad ts || outOf x.frm 31

set_option maxRecDepth 100000 in
set_option maxHeartbeats 2000000 in
theorem putInf_any {w : World} (x : InfD) (hx : x.Ok) {B' : Nat} {A : Option Addr} {n c : Nat} {ts : List TN} (hr : RdT w B' A ts) (hB' : B' ≤ w.heap.size) (hn : ts.length = n) (hy : n ≤ 300) (hu : ∀ t ∈ ts, t.x.um.length ≤ 300) :
    Calls Try.prog 29 #[.agg (infC x A n c).toArray] w fun e w' => ∃ v, e = .returned (.tuple #[v, errV (if (infBad x ts || decide (65536 < (infB x ts).length)) then 3 else 0)]) ∧ Own b8 w' w.heap.size 5 v (if (infBad x ts || decide (65536 < (infB x ts).length)) then [] else infB x ts) ∧ Below w.heap.size w w' := by
  have HX := Lib.hid hx
  have HR := Lib.hid hr
  have HN := Lib.hid hn
  have HU := Lib.hid hu
  have HF := Lib.hid (show ∀ W1, (w.alloc (.cells (infC x A n c).toArray 64)).alloc (.cells #[.slice none 0 0, .bool false] 112) = W1 →
      Blk W1 w.heap.size 64 (infC x A n c) ∧ Pen W1 (w.heap.size + 1) (w.heap.size + 1) [] false ∧ Below w.heap.size w W1 ∧ W1.heap.size = w.heap.size + 2 by
    rintro W1 rfl
    refine ⟨Blk.alloc (Blk.new w _ _) _, pen_of (v := .slice none 0 0) ?_ (Own.nil_ _ _ _ _) (Nat.le_refl _), ((Below.refl _ _).alloc (Nat.le_refl _) _).alloc (by simp) _, by simp⟩
    exact Blk.at_size _ [.slice none 0 0, .bool false] (by simp))
  obtain ⟨q, hq⟩ : ∃ q, q = (infBad x ts || decide (65536 < (infB x ts).length)) := ⟨_, rfl⟩
  have HQ := Lib.hid hq
  rw [← hq]
  clear hx hr hn hu hq
  go_enter Try.func29, Try.ntmps29
  go_wp2_with fail
  generalize hW1 : World.alloc (World.alloc w _) _ = W1
  obtain ⟨hbx1, hp1, hb1, hz1⟩ := HF.out W1 hW1
  clear hW1 HF
  have HBx1 := Lib.hid hbx1
  have HP1 := Lib.hid hp1
  have HB1 := Lib.hid hb1
  have HW1 := Lib.hid (Below.refl (w.heap.size + 1) W1)
  have hs1 : w.heap.size + 2 ≤ W1.heap.size := by omega
  clear hbx1 hp1 hb1 hz1
  refine (bytes_any HP1.out (rd_of_range (infC_grp HBx1.out HX.out)) (by omega) HX.out.grp (by simp) (by omega)).mono ?_
  rintro e w2 ⟨rfl, hp2, hb2⟩
  have HP2 := Lib.hid hp2
  have HBx2 := Lib.hid (HBx1.out.below hb2 (by omega))
  have HW2 := Lib.hid (HW1.out.trans hb2)
  have hs2 := Nat.le_trans hs1 hb2.size
  clear hp2 hb2
  have c32 := infC_ep HBx2.out HX.out
  go_wp2_with fail
  refine (number_in HP2.out x.ep 4 4 rfl 4294967295 HX.out.ep'.1 HX.out.ep'.2 (by omega) (by simp [HX.out.grp])).mono ?_
  rintro e w3 ⟨rfl, hp3, hb3⟩
  have HP3 := Lib.hid hp3
  have HBx3 := Lib.hid (HBx2.out.below hb3 (by omega))
  have HW3 := Lib.hid (HW2.out.trans hb3)
  have hs3 := Nat.le_trans hs2 hb3.size
  clear hp3 hb3
  clear c32
  have c33 := infC_nodes HBx3.out HX.out
  go_wp2_with fail
  refine (treeO_any HP3.out (HR.out.below ((HB1.out.trans (HW3.out.mono (by omega))).mono hB')) (by omega) HN.out hy HU.out (by simp [HX.out.grp, be_len])).mono ?_
  rintro e w4 ⟨rfl, ⟨ys, hp4, hys, hyl⟩, hb4, -⟩
  have HP4 := Lib.hid hp4
  have HBx4 := Lib.hid (HBx3.out.below hb4 (by omega))
  have HW4 := Lib.hid (HW3.out.trans hb4)
  have hs4 := Nat.le_trans hs3 hb4.size
  clear hp4 hb4
  have HYs := Lib.hid hys
  clear c33 hys
  have hyl' : ys.length ≤ 130000 := by have : n * 400 ≤ 300 * 400 := Nat.mul_le_mul_right _ hy; omega
  go_wp2_with fail
  refine (bytes_any HP4.out (rd_of_range (infC_conf HBx4.out HX.out)) (by omega) HX.out.conf (by simp [HX.out.grp, be_len]; omega) (by omega)).mono ?_
  rintro e w5 ⟨rfl, hp5, hb5⟩
  have HP5 := Lib.hid hp5
  have HBx5 := Lib.hid (HBx4.out.below hb5 (by omega))
  have HW5 := Lib.hid (HW4.out.trans hb5)
  have hs5 := Nat.le_trans hs4 hb5.size
  clear hp5 hb5
  go_wp2_with fail
  refine (bytes_any HP5.out (rd_of_range (infC_tag HBx5.out HX.out)) (by omega) HX.out.tag (by simp [HX.out.grp, HX.out.conf, be_len]; omega) (by omega)).mono ?_
  rintro e w6 ⟨rfl, hp6, hb6⟩
  have HP6 := Lib.hid hp6
  have HBx6 := Lib.hid (HBx5.out.below hb6 (by omega))
  have HW6 := Lib.hid (HW5.out.trans hb6)
  have hs6 := Nat.le_trans hs5 hb6.size
  clear hp6 hb6
  have c98 := infC_frm HBx6.out HX.out
  go_wp2_with fail
  refine (seat_any HP6.out x.frm HX.out.frm'.1 HX.out.frm'.2 (by simp [HX.out.grp, HX.out.conf, HX.out.tag, be_len]; omega)).mono ?_
  rintro e w7 ⟨rfl, hp7, hb7⟩
  have HP7 := Lib.hid hp7
  have HBx7 := Lib.hid (HBx6.out.below hb7 (by omega))
  have HW7 := Lib.hid (HW6.out.trans hb7)
  have hs7 := Nat.le_trans hs6 hb7.size
  clear hp7 hb7
  clear c98
  go_wp2_with fail
  refine (bytes_any HP7.out (rd_of_range (infC_sig HBx7.out HX.out)) (by omega) HX.out.sig (by simp [HX.out.grp, HX.out.conf, HX.out.tag, be_len]; omega) (by omega)).mono ?_
  rintro e w8 ⟨rfl, hp8, hb8⟩
  have HP8 := Lib.hid hp8
  have HBx8 := Lib.hid (HBx7.out.below hb8 (by omega))
  have HW8 := Lib.hid (HW7.out.trans hb8)
  have hs8 := Nat.le_trans hs7 hb8.size
  clear hp8 hb8
  have hpe : Pen w8 (w.heap.size + 1) (w.heap.size + 1) ([] ++ (x.grp ++ (be x.ep 4 ++ (ys ++ (x.conf ++ (x.tag ++ (be x.frm 1 ++ x.sig))))))) (false || infBad x ts) :=
    HP8.out.cast (by simp only [List.append_assoc, List.nil_append]) (by unfold infBad; simp only [Bool.or_assoc, Bool.false_or])
  have HEnd := Lib.hid (end_put hpe (X := infB x ts) (fun h => by
    have h2 : infBad x ts = false := by simpa using h
    have h3 : (false || outOf x.ep 4294967295 || treeBad ts) = false := by unfold infBad at h2; rw [Bool.or_eq_false_iff] at h2; rw [Bool.false_or]; exact h2.1
    rw [HYs.out h3, infB]))
  rw [← HQ.out] at HEnd
  have HBe := Lib.hid (HB1.out.trans (HW8.out.mono (by omega)))
  clear hpe
  go_wp2_with fail
  refine HEnd.out.mono ?_
  rintro e w9 ⟨⟨v9, rfl, ho9⟩, rfl⟩
  have HO9 := Lib.hid (ho9.less (show w.heap.size ≤ w.heap.size + 1 by omega))
  clear ho9
  cases q with
  | true =>
    go_wp2_with fail
    go_ret2
    exact ⟨_, rfl, HO9.out, HBe.out⟩
  | false =>
    go_wp2_with fail
    go_ret2
    exact ⟨_, rfl, HO9.out, HBe.out⟩
end Go.Proofs.Ytloglpamnalmeaa
