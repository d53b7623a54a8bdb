/- A commit's cells and bytes. CONTRACT: wire.PutCommit. -/
import Derived.Test.YtloglpamnalmeaaPropL
namespace Go.Proofs.Ytloglpamnalmeaa
open Go.RowKit
set_option linter.unusedVariables false
set_option linter.unusedSimpArgs false

/-- a commit in memory -/
structure CommT where
  grp : List (BitVec 8)
  ep : Int
  frm : Int
  base : List (BitVec 8)
  props : List PropT
  Ap : Option Addr
  cp : Nat
  path : PathT
  tag : List (BitVec 8)
  sig : List (BitVec 8)
def commC (x : CommT) : List Value := x.grp.map b8 ++ (.int .i64 x.ep :: .int .i64 x.frm :: (x.base.map b8 ++ (.slice x.Ap x.props.length x.cp :: (x.path.cells ++ (x.tag.map b8 ++ x.sig.map b8)))))
structure RdC (w : World) (B : Nat) (x : CommT) : Prop where
  grp : x.grp.length = 32
  base : x.base.length = 32
  tag : x.tag.length = 32
  sig : x.sig.length = 64
  ep : (Lit.int .i64 x.ep).wf = true
  frm : (Lit.int .i64 x.frm).wf = true
  props : RdPr w B x.Ap x.props
  plen : x.props.length ≤ 9223372036854775807
  path : RdP w B x.path
theorem RdC.below {w w' : World} {B : Nat} {x : CommT} (h : RdC w B x) (hb : Below B w w') : RdC w' B x := ⟨h.grp, h.base, h.tag, h.sig, h.ep, h.frm, h.props.below hb, h.plen, h.path.below hb⟩
/-- the lengths alone -/
structure CommT.Len (x : CommT) : Prop where
  grp : x.grp.length = 32
  base : x.base.length = 32
  tag : x.tag.length = 32
  sig : x.sig.length = 64
  leaf : x.path.leaf.Ok
theorem RdC.len {w : World} {B : Nat} {x : CommT} (h : RdC w B x) : x.Len := ⟨h.grp, h.base, h.tag, h.sig, h.path.leaf⟩
section
variable {w : World} {g : Nat} {T : TypeId} {x : CommT}
theorem commC_len (h : x.Len) : (commC x).length = 263 := by simp [commC, h.grp, h.base, h.tag, h.sig, pathC_len h.leaf]
theorem commC_one (x : CommT) : ∀ u ∈ commC x, u.oneCell' = true := by
  intro u hu
  simp only [commC, List.mem_append, List.mem_map, List.mem_cons] at hu
  rcases hu with ⟨y, -, rfl⟩ | rfl | rfl | ⟨y, -, rfl⟩ | rfl | h | ⟨y, -, rfl⟩ | ⟨y, -, rfl⟩
  all_goals first | exact pathC_one _ u h | rfl
theorem commC_grp (h : Blk w g T (commC x)) : w.rangeAt g 0 (x.grp.map b8) := h.piece (pre := []) rfl rfl
theorem commC_ep (h : Blk w g T (commC x)) (hx : x.Len) : w.cell? ⟨g, 32, none⟩ = some (.int .i64 x.ep) := h.one (pre := x.grp.map b8) rfl (by simp [hx.grp])
theorem commC_frm (h : Blk w g T (commC x)) (hx : x.Len) : w.cell? ⟨g, 33, none⟩ = some (.int .i64 x.frm) := h.one (pre := x.grp.map b8 ++ [.int .i64 x.ep]) (post := x.base.map b8 ++ (.slice x.Ap x.props.length x.cp :: (x.path.cells ++ (x.tag.map b8 ++ x.sig.map b8)))) (by simp [commC]) (by simp [hx.grp])
theorem commC_base (h : Blk w g T (commC x)) (hx : x.Len) : w.rangeAt g 34 (x.base.map b8) := h.piece (pre := x.grp.map b8 ++ [.int .i64 x.ep, .int .i64 x.frm]) (post := .slice x.Ap x.props.length x.cp :: (x.path.cells ++ (x.tag.map b8 ++ x.sig.map b8))) (by simp [commC]) (by simp [hx.grp])
theorem commC_props (h : Blk w g T (commC x)) (hx : x.Len) : w.cell? ⟨g, 66, none⟩ = some (.slice x.Ap x.props.length x.cp) := h.one (pre := x.grp.map b8 ++ (.int .i64 x.ep :: .int .i64 x.frm :: x.base.map b8)) (post := x.path.cells ++ (x.tag.map b8 ++ x.sig.map b8)) (by simp [commC]) (by simp [hx.grp, hx.base])
theorem commC_path (h : Blk w g T (commC x)) (hx : x.Len) : w.rangeAt g 67 x.path.cells := h.piece (pre := x.grp.map b8 ++ (.int .i64 x.ep :: .int .i64 x.frm :: (x.base.map b8 ++ [.slice x.Ap x.props.length x.cp]))) (post := x.tag.map b8 ++ x.sig.map b8) (by simp [commC]) (by simp [hx.grp, hx.base])
theorem commC_tag (h : Blk w g T (commC x)) (hx : x.Len) : w.rangeAt g 167 (x.tag.map b8) := h.piece (pre := x.grp.map b8 ++ (.int .i64 x.ep :: .int .i64 x.frm :: (x.base.map b8 ++ (.slice x.Ap x.props.length x.cp :: x.path.cells)))) (post := x.sig.map b8) (by simp [commC]) (by simp [hx.grp, hx.base, pathC_len hx.leaf])
theorem commC_sig (h : Blk w g T (commC x)) (hx : x.Len) : w.rangeAt g 199 (x.sig.map b8) := h.piece (pre := x.grp.map b8 ++ (.int .i64 x.ep :: .int .i64 x.frm :: (x.base.map b8 ++ (.slice x.Ap x.props.length x.cp :: (x.path.cells ++ x.tag.map b8))))) (post := []) (by simp [commC]) (by simp [hx.grp, hx.base, hx.tag, pathC_len hx.leaf])
end
/-- the zero commit -/
def zPath : PathT := ⟨zNode, none, 0, [], none, 0⟩
def zComm : CommT := ⟨zero32, 0, 0, zero32, [], none, 0, zPath, zero32, List.replicate 64 0#8⟩
theorem infoComm : (Try.prog.info? 82).map (·.size) = some 263 := by kernel_rfl
def commB (x : CommT) : List (BitVec 8) := groupB x.grp x.ep x.frm ++ (x.base ++ (be x.props.length 1 ++ (propsB x.props ++ (pathB x.path ++ (x.tag ++ x.sig)))))
def commBad (x : CommT) : Bool := outOf x.ep 4294967295 || outOf x.frm 31 || outOf x.props.length 255 || propsBad x.props || pathBad x.path
set_option maxRecDepth 100000 in
set_option maxHeartbeats 2000000 in
theorem putComm_any {w : World} (x : CommT) {B' : Nat} (hr : RdC w B' x) (hB' : B' ≤ w.heap.size) :
    Calls Try.prog 36 #[.agg (commC x).toArray] w fun e w' => ∃ v, e = .returned (.tuple #[v, errV (if (commBad x || decide (65536 < (commB x).length)) then 3 else 0)]) ∧ Own b8 w' w.heap.size 5 v (if (commBad x || decide (65536 < (commB x).length)) then [] else commB x) ∧ Below w.heap.size w w' := by
  have HX := Lib.hid hr.len
  have HR := Lib.hid hr
  have HBx0 := Lib.hid (Blk.new w 82 (commC x))
  have HF := Lib.hid (show ∀ W1, (w.alloc (.cells (commC x).toArray 82)).alloc (.cells #[.slice none 0 0, .bool false] 112) = W1 →
      Blk W1 w.heap.size 82 (commC x) ∧ Pen W1 (w.heap.size + 1) (w.heap.size + 1) [] false ∧ Below w.heap.size w W1 ∧ W1.heap.size = w.heap.size + 2 by
    rintro W1 rfl
    refine ⟨Blk.alloc (Blk.new w _ _) _, pen_of (v := .slice none 0 0) ?_ (Own.nil_ _ _ _ _) (Nat.le_refl _), ((Below.refl _ _).alloc (Nat.le_refl _) _).alloc (by simp) _, by simp⟩
    exact Blk.at_size _ [.slice none 0 0, .bool false] (by simp))
  obtain ⟨q, hq⟩ : ∃ q, q = (commBad x || decide (65536 < (commB x).length)) := ⟨_, rfl⟩
  have HQ := Lib.hid hq
  rw [← hq]
  clear hr hq
  go_enter Try.func36, Try.ntmps36
  go_wp2_with (generalize hW1 : World.alloc (World.alloc w _) _ = W1; obtain ⟨hbx1, hp1, hb1, hz1⟩ := HF.out W1 hW1; clear hW1; have HBx1 := Lib.hid hbx1; have HP1 := Lib.hid hp1; have HB1 := Lib.hid hb1; have c32 := commC_ep hbx1 HX.out; have c33 := commC_frm hbx1 HX.out; have hs1 : w.heap.size + 2 ≤ W1.heap.size := (by omega); clear hbx1 hp1 hb1; refine wpList_load_mid rfl 23 (.tmp 8) rfl w.heap.size 0 rfl (x.grp.map b8) _ (commC_grp HBx1.out) Try.underlying23 rfl (by rw [List.length_map, HX.out.grp]; exact infoSum) ?_)
  have HW1 := Lib.hid (Below.refl (w.heap.size + 1) W1)
  have hg := group_any HP1.out x.grp x.ep x.frm HX.out.grp (i64_wf HR.out.ep).1 (i64_wf HR.out.ep).2 (i64_wf HR.out.frm).1 (i64_wf HR.out.frm).2 (by simp)
  rw [arrV_mk] at hg
  refine hg.mono ?_
  clear hg
  rintro e w2 ⟨rfl, hp2, hb2⟩
  have HP2 := Lib.hid hp2
  have HBx2 := Lib.hid (HBx1.out.below hb2 (by omega))
  have HW2 := Lib.hid (HW1.out.trans hb2)
  have hs2 := Nat.le_trans hs1 hb2.size
  clear hp2 hb2
  clear c32 c33
  go_wp2_with fail
  refine (bytes_any HP2.out (rd_of_range (commC_base HBx2.out HX.out)) (by omega) HX.out.base (by simp [groupB_len, HX.out.grp]) (by omega)).mono ?_
  rintro e w3 ⟨rfl, hp3, hb3⟩
  have HP3 := Lib.hid hp3
  have HBx3 := Lib.hid (HBx2.out.below hb3 (by omega))
  have HW3 := Lib.hid (HW2.out.trans hb3)
  have hs3 := Nat.le_trans hs2 hb3.size
  clear hp3 hb3
  have c66 := commC_props HBx3.out HX.out
  have HRl := Lib.hid (show ∀ (W : World), Below (w.heap.size + 1) W1 W → RdC W B' x from fun W hb => HR.out.below ((HB1.out.trans (hb.mono (by omega))).mono hB'))
  go_wp2_with fail
  refine (listProp_any HP3.out (HRl.out _ HW3.out).props (by omega) rfl HR.out.plen (by simp [groupB_len, HX.out.grp, HX.out.base])).mono ?_
  rintro e w4 ⟨rfl, ⟨ys, hp4, hys, hyl⟩, hb4, -⟩
  have HP4 := Lib.hid hp4
  have HBx4 := Lib.hid (HBx3.out.below hb4 (by omega))
  have HW4 := Lib.hid (HW3.out.trans hb4)
  have hs4 := Nat.le_trans hs3 hb4.size
  clear hp4 hb4
  have HYs := Lib.hid hys
  clear c66 hys
  go_wp2_with (refine wpList_load_mid rfl 80 (.tmp 24) rfl w.heap.size 67 rfl x.path.cells _ (commC_path HBx4.out HX.out) Try.underlying80 rfl (by rw [pathC_len HX.out.leaf]; exact infoPath) ?_)
  refine (pathO_any HP4.out (HRl.out _ HW4.out).path (by omega) (by simp only [List.length_append, List.length_nil, groupB_len, HX.out.grp, HX.out.base]; omega)).mono ?_
  rintro e w5 ⟨rfl, ⟨zs, hp5, hzs, hzl⟩, hb5, -⟩
  have HP5 := Lib.hid hp5
  have HBx5 := Lib.hid (HBx4.out.below hb5 (by omega))
  have HW5 := Lib.hid (HW4.out.trans hb5)
  have hs5 := Nat.le_trans hs4 hb5.size
  clear hp5 hb5
  have HZs := Lib.hid hzs
  clear hzs
  go_wp2_with fail
  refine (bytes_any HP5.out (rd_of_range (commC_tag HBx5.out HX.out)) (by omega) HX.out.tag (by simp only [List.length_append, List.length_nil, groupB_len, HX.out.grp, HX.out.base]; omega) (by omega)).mono ?_
  rintro e w6 ⟨rfl, hp6, hb6⟩
  have HP6 := Lib.hid hp6
  have HBx6 := Lib.hid (HBx5.out.below hb6 (by omega))
  have HW6 := Lib.hid (HW5.out.trans hb6)
  have hs6 := Nat.le_trans hs5 hb6.size
  clear hp6 hb6
  go_wp2_with fail
  refine (bytes_any HP6.out (rd_of_range (commC_sig HBx6.out HX.out)) (by omega) HX.out.sig (by simp only [List.length_append, List.length_nil, groupB_len, HX.out.grp, HX.out.base, HX.out.tag]; omega) (by omega)).mono ?_
  rintro e w7 ⟨rfl, hp7, hb7⟩
  have HP7 := Lib.hid hp7
  have HBx7 := Lib.hid (HBx6.out.below hb7 (by omega))
  have HW7 := Lib.hid (HW6.out.trans hb7)
  have hs7 := Nat.le_trans hs6 hb7.size
  clear hp7 hb7
  have hpe : Pen w7 (w.heap.size + 1) (w.heap.size + 1) ([] ++ (groupB x.grp x.ep x.frm ++ (x.base ++ (ys ++ (zs ++ (x.tag ++ x.sig)))))) (false || commBad x) :=
    HP7.out.cast (by simp only [List.append_assoc, List.nil_append]) (by unfold commBad; simp only [Bool.or_assoc, Bool.false_or])
  have HEnd := Lib.hid (end_put hpe (X := commB x) (fun h => by
    have h2 : commBad x = false := by simpa using h
    unfold commBad at h2
    have h3 := h2
    rw [Bool.or_eq_false_iff, Bool.or_eq_false_iff] at h3
    rw [HYs.out (by simp only [Bool.or_eq_false_iff] at h2 ⊢; exact ⟨⟨⟨⟨trivial, h2.1.1.1.1⟩, h2.1.1.1.2⟩, h2.1.1.2⟩, h2.1.2⟩), HZs.out (by simp only [Bool.or_eq_false_iff] at h2 ⊢; exact ⟨⟨⟨⟨⟨trivial, h2.1.1.1.1⟩, h2.1.1.1.2⟩, h2.1.1.2⟩, h2.1.2⟩, h2.2⟩), commB]
    simp only [List.append_assoc]))
  rw [← HQ.out] at HEnd
  have HBe := Lib.hid (HB1.out.trans (HW7.out.mono (by omega)))
  clear hpe
  go_wp2_with fail
  refine HEnd.out.mono ?_
  rintro e w9 ⟨⟨v9, rfl, ho9⟩, rfl⟩
  have HO9 := Lib.hid (ho9.less (show w.heap.size ≤ w.heap.size + 1 by omega))
  clear ho9
  cases q with
  | true =>
    go_wp2_with fail
    go_ret2
    exact ⟨_, rfl, HO9.out, HBe.out⟩
  | false =>
    go_wp2_with fail
    go_ret2
    exact ⟨_, rfl, HO9.out, HBe.out⟩
end Go.Proofs.Ytloglpamnalmeaa
