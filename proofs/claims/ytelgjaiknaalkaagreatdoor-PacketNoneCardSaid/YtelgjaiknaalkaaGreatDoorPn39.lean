/- PLAIN LAWS: what is sealed is opened. No program; conditions: the lengths that Seal takes. -/
import Derived.Test.YtelgjaiknaalkaaGreatDoorPn27
import Derived.Test.YtelgjaiknaalkaaGreatDoorPn36
import Derived.Test.YtelgjaiknaalkaaGreatDoorPn38
import Derived.Test.YtelgjaiknaalkaaGreatDoorPn06
import Derived.Lib.SlBytesConst
import Derived.Test.YtelgjaiknaalkaaGreatDoorPn17
import Derived.Lib.LaidTab
import Derived.Stop.LaidErr
import Derived.ProofKit
namespace Go.Proofs.YtelgjaiknaalkaaGreatDoor
set_option linter.unusedVariables false
set_option linter.unusedSimpArgs false
theorem sealBad_zero {n c t : Nat} (h : sealBad n c t = 0) : n = 12 ∧ c ≤ 1048576 ∧ t ≤ 1048576 := by
  unfold sealBad at h
  split at h
  · cases h
  · omega
theorem sealV_good (key nonce ctx text : List (BitVec 8)) (h : sealBad nonce.length ctx.length text.length = 0) : sealV key nonce ctx text = mixV key nonce 1 text ++ tagOf key nonce ctx (mixV key nonce 1 text) := by unfold sealV; rw [if_pos h]
theorem sealV_len (key nonce ctx text : List (BitVec 8)) (h : sealBad nonce.length ctx.length text.length = 0) : (sealV key nonce ctx text).length = text.length + 16 := by
  have hz := sealBad_zero h
  rw [sealV_good _ _ _ _ h, List.length_append, tagOf_len, (mixV_len1 key nonce text hz.1 (by omega)).2]
theorem open_seal (key nonce ctx text : List (BitVec 8)) (h : sealBad nonce.length ctx.length text.length = 0) : openBad key nonce ctx (sealV key nonce ctx text) = 0 ∧ openV key nonce ctx (sealV key nonce ctx text) = text := by
  have hz := sealBad_zero h
  have hl := sealV_len key nonce ctx text h
  have hm := (mixV_len1 key nonce text hz.1 (by omega)).2
  have ht : (sealV key nonce ctx text).take ((sealV key nonce ctx text).length - 16) = mixV key nonce 1 text := by
    rw [hl, Nat.add_sub_cancel, sealV_good _ _ _ _ h, List.take_append_of_le_length (by omega), List.take_of_length_le (by omega)]
  have hd : (sealV key nonce ctx text).drop ((sealV key nonce ctx text).length - 16) = tagOf key nonce ctx (mixV key nonce 1 text) := by
    rw [hl, Nat.add_sub_cancel, sealV_good _ _ _ _ h, List.drop_append_of_le_length (by omega), List.drop_of_length_le (by omega), List.nil_append]
  have hb : openBad key nonce ctx (sealV key nonce ctx text) = 0 := by
    unfold openBad
    rw [ht, hd, hl, if_neg (by omega), if_neg (by omega), if_pos rfl]
  refine ⟨hb, ?_⟩
  unfold openV
  rw [if_pos hb, ht, mixV_back key nonce text hz.1 (by omega)]
end Go.Proofs.YtelgjaiknaalkaaGreatDoor
namespace Go.Proofs.YtelgjaiknaalkaaGreatDoor
open Go.RowKit
set_option linter.unusedVariables false
set_option linter.unusedSimpArgs false
/-- what a call on a box leaves -/
structure BStep (w w' : World) (base gB : Nat) (b b' : BX) : Prop where
  box : BoxAt w' base gB b'
  frm : Frm w w' (BX.foot gB b)
  foot : ∀ k ∈ BX.foot gB b', k ∈ BX.foot gB b ∨ w.heap.size ≤ k
section
variable {w w' : World} {base gA gB : Nat} {a b a' b' : BX}
theorem BoxAt.less {base' : Nat} (h : BoxAt w base gB b) (hb : base' ≤ base) : BoxAt w base' gB b :=
  ⟨h.blk, h.glen, rowS_less h.row hb, h.ch, h.bnd, h.rise, h.many, h.nd, ⟨Nat.le_trans hb h.low.1, fun k hk => Nat.le_trans hb (h.low.2 k hk)⟩⟩
/-- two boxes, whose blocks are others -/
structure TwoAt (w : World) (base gA gB : Nat) (a b : BX) : Prop where
  l : BoxAt w base gA a
  r : BoxAt w base gB b
  ne : ∀ k ∈ BX.foot gA a, k ∉ BX.foot gB b
theorem TwoAt.below (h : TwoAt w base gA gB a b) (hb : Below w.heap.size w w') : TwoAt w' base gA gB a b := ⟨h.l.below hb, h.r.below hb, h.ne⟩
theorem TwoAt.swap (h : TwoAt w base gA gB a b) : TwoAt w base gB gA b a := ⟨h.r, h.l, fun k hk hm => h.ne k hm hk⟩
theorem TwoAt.left (h : TwoAt w base gA gB a b) (s : BStep w w' base gA a a') : TwoAt w' base gA gB a' b :=
  ⟨s.box, h.r.frm s.frm (fun k hk hm => h.ne k hm hk), fun k hk hm => by
    rcases s.foot k hk with h1 | h1
    · exact h.ne k h1 hm
    · have := (h.r.foot_lt k hm).2; omega⟩
theorem TwoAt.right (h : TwoAt w base gA gB a b) (s : BStep w w' base gB b b') : TwoAt w' base gA gB a b' := (h.swap.left s).swap
theorem TwoAt.of_same (h : TwoAt w base gA gB a b) (hs : ∀ k, k ∈ BX.foot gA a ∨ k ∈ BX.foot gB b → w'.heap[k]? = w.heap[k]?) : TwoAt w' base gA gB a b := ⟨h.l.of_same (fun k hk => hs k (.inl hk)), h.r.of_same (fun k hk => hs k (.inr hk)), h.ne⟩
theorem BStep.toBelow (s : BStep w w' base gB b b') (h : BoxAt w base gB b) {w0 : World} (hb : Below base w0 w) : Below base w0 w' :=
  Frm.toBelow hb s.frm (Nat.le_of_lt (Nat.lt_of_le_of_lt h.low.1 h.gB_lt)) (fun q hq => (h.foot_lt q hq).1)
theorem BStep.refl (h : BoxAt w base gB b) (hb : Below w.heap.size w w') : BStep w w' base gB b b := ⟨h.below hb, (Frm.refl w _).below hb (Nat.le_refl _), fun k hk => .inl hk⟩
end
/-- two boxes that were just made -/
theorem TwoAt.fresh {w1 w2 : World} {base gA gB : Nat} {c d : BX} (hA : BoxAt w1 gA gA c) (hB : BoxAt w2 gB gB d) (hw : w1.heap.size ≤ gB) (hbA : base ≤ gA) (hb : Below w1.heap.size w1 w2) : TwoAt w2 base gA gB c d :=
  ⟨(hA.below hb).less hbA, hB.less (by have := hA.gB_lt; omega), fun k hk hm => by
    have h1 := (hA.foot_lt k hk).2
    have h2 := (hB.foot_lt k hm).1
    omega⟩
/-- a group, or a secret, of one byte -/
def exG (x : BitVec 8) : List (BitVec 8) := x :: List.replicate 31 0#8
theorem exG_len (x : BitVec 8) : (exG x).length = 32 := by simp [exG]
theorem startL_take (z : List (BitVec 8)) (n : Int) (h0 : 0 ≤ n) (h1 : n ≤ 256) : takeE (startL z) n = 0 := by
  have hh : hiM (startL z) = -1 := rfl
  have hl : (startL z).low = 0 := rfl
  have hp : (startL z).place = 0 := rfl
  unfold takeE
  rw [if_neg (by omega), if_neg (by rw [hh]; omega), if_neg (by rw [hl]; omega), if_neg (by show n ∉ []; simp), if_neg (by rw [hp]; omega)]
theorem takeE_asked {l : LineM} (k : LOK l) {n : Int} (h0 : takeE l n = 0) (h1 : l.low = 0) (h2 : l.place ≤ n + 65) : takeE (takeL l n) n = 7 := by
  obtain ⟨n0, n1, nh, nl, na, nf⟩ := takeE_zero h0
  have hhi := (takeL_ok k h0).hi
  have hp : (takeL l n).place = if l.place ≤ n then n + 1 else l.place := rfl
  unfold takeE
  rw [if_neg (by omega), if_neg (by rw [hhi, hp]; split <;> omega), if_neg (by show ¬ n < l.low; omega), if_pos (by show n ∈ l.asked ++ [n]; simp)]
theorem leafS_len (n i : Nat) (s : List (BitVec 8)) (hs : s.length = 32) : (leafS n i s).length = 32 := downS_len _ _ _ _ hs
end Go.Proofs.YtelgjaiknaalkaaGreatDoor
namespace Go.Proofs.YtelgjaiknaalkaaGreatDoor
open Go.RowKit
set_option linter.unusedVariables false
set_option linter.unusedSimpArgs false
set_option maxRecDepth 100000
/-- what a box's first epoch is -/
theorem enter_first (g s : List (BitVec 8)) (no lv lf : Int) (hs : soundB lv = true) (h0 : 0 ≤ lf) (h1 : lf < lv) (n0 : 0 ≤ no) (n1 : no ≤ 4294967295) :
    enterE emptyM g no lv lf = 0 ∧ enterM emptyM g no lv lf s = ⟨g, [⟨no, lf.toNat, newLs lv.toNat s⟩], false⟩ := by
  have h : enterE emptyM g no lv lf = 0 := by
    unfold enterE emptyM
    rw [if_neg (by decide), if_neg (by rw [hs]; simp; omega), if_neg (by omega), if_neg (by simp)]
  refine ⟨h, ?_⟩
  unfold enterM
  rw [if_pos h]
  rfl
theorem sealE_ok {b : BM} {l : LineM} {n : Nat} (hl : lastLine b.es = some l) (hn : n ≤ 1024) (ht : takeE l l.place = 0) : sealE b n = 0 := by
  unfold sealE; rw [hl]; dsimp only; rw [if_neg (by omega), ht]
theorem sealP_ok {b : BM} {l : LineM} {text : List (BitVec 8)} (hl : lastLine b.es = some l) (hn : text.length ≤ 1024) (ht : takeE l l.place = 0) :
    sealP b text = ⟨b.grp, lastNo b.es, (lastLeaf b.es : Int), l.place, sealV (takeO l l.place).key (takeO l l.place).nonce (ctxV b.grp (lastNo b.es) (lastLeaf b.es : Int) l.place) text⟩ := by
  have h := sealE_ok hl hn ht
  unfold sealP; rw [hl]; dsimp only; rw [if_pos h]
theorem openE_at {b : BM} {p : PM} {i : Nat} {l : LineM} (hne : b.es ≠ []) (hb : pkBad p.ep p.fr p.nu p.sl.length = false) (hl : p.sl.length ≤ 1040) (hf : findE b.es p.ep = some i) (hg : p.grp = b.grp) (hfr : p.fr ≠ (leafAt b.es i : Int)) (hla : lineAt b.es i p.fr.toNat = some l) :
    openE b p = if takeE l p.nu ≠ 0 then takeE l p.nu else openBad (takeO l p.nu).key (takeO l p.nu).nonce (ctxV p.grp p.ep p.fr p.nu) p.sl := by
  unfold openE
  rw [if_neg hne, if_neg (by rw [hb]; decide), if_neg (by omega), hf]
  dsimp only
  rw [if_neg (by simp [hg]), if_neg hfr, hla]
theorem pkLine_at {b : BM} {p : PM} {i : Nat} {l : LineM} (hf : findE b.es p.ep = some i) (hla : lineAt b.es i p.fr.toNat = some l) : pkLine b p = some (i, l) := by
  unfold pkLine; rw [hf]; dsimp only [Option.bind_some]; rw [hla]; rfl
theorem openT_at {b : BM} {p : PM} {i : Nat} {l : LineM} (hp : pkLine b p = some (i, l)) (h0 : openE b p = 0) : openT b p = openV (takeO l p.nu).key (takeO l p.nu).nonce (ctxV p.grp p.ep p.fr p.nu) p.sl := by
  unfold openT; rw [hp]; dsimp only; rw [if_pos h0]
theorem openM_at {b : BM} {p : PM} {i : Nat} {l : LineM} (hp : pkLine b p = some (i, l)) (h0 : openE b p = 0) : openM b p = ⟨b.grp, setLine b.es i p.fr.toNat (takeL l p.nu), b.clr⟩ := by
  unfold openM; rw [hp]; dsimp only; rw [if_pos h0]
/-- a sealed text is opened -/
theorem unsealed {l : LineM} (k : LOK l) {n : Int} (ht : takeE l n = 0) {ctx text : List (BitVec 8)} (hc : ctx.length = 41) (hl : text.length ≤ 1048576) :
    openBad (takeO l n).key (takeO l n).nonce ctx (sealV (takeO l n).key (takeO l n).nonce ctx text) = 0 ∧ openV (takeO l n).key (takeO l n).nonce ctx (sealV (takeO l n).key (takeO l n).nonce ctx text) = text ∧ (sealV (takeO l n).key (takeO l n).nonce ctx text).length = text.length + 16 := by
  obtain ⟨hk, hn⟩ := takeO_lens k ht
  have hs : sealBad (takeO l n).nonce.length ctx.length text.length = 0 := by rw [hn, hc]; unfold sealBad; rw [if_neg (by omega)]
  obtain ⟨h1, h2⟩ := open_seal (takeO l n).key (takeO l n).nonce ctx text hs
  exact ⟨h1, h2, sealV_len _ _ _ _ hs⟩
/-- the example's boxes, its packet, what they come to -/
def m23a : BM := ⟨exG 1#8, [⟨0, 0, newLs 2 (exG 2#8)⟩], false⟩
def m23b : BM := ⟨exG 1#8, [⟨0, 1, newLs 2 (exG 2#8)⟩], false⟩
def hi23 : List (BitVec 8) := [104#8, 105#8]
def z23 : List (BitVec 8) := leafS 2 0 (exG 2#8)
theorem z23_len : z23.length = 32 := leafS_len _ _ _ (exG_len _)
def p23 : PM := ⟨exG 1#8, 0, 0, 0, sealV (takeO (startL z23) 0).key (takeO (startL z23) 0).nonce (ctxV (exG 1#8) 0 0 0) hi23⟩
theorem line23a : lastLine m23a.es = some (startL z23) := rfl
theorem line23b : lineAt m23b.es 0 p23.fr.toNat = some (startL z23) := rfl
theorem seal23a : sealE m23a 2 = 0 ∧ sealP m23a hi23 = p23 := by
  have ht := startL_take z23 0 (by decide) (by decide)
  exact ⟨sealE_ok line23a (by decide) ht, sealP_ok line23a (by decide) ht⟩
theorem p23_len : p23.sl.length = 18 := by
  have h := (unsealed (startL_ok z23 z23_len) (startL_take z23 0 (by decide) (by decide)) (ctxV_len (exG_len 1#8) 0 0 0) (text := hi23) (by decide)).2.2
  exact h
theorem p23_plen (A : Option Addr) (n c : Nat) : (packetC p23.grp p23.ep p23.fr p23.nu A n c).length = 36 := pkC_len (exG_len 1#8) _ _ _ _ _ _
theorem open23b : openE m23b p23 = 0 ∧ openT m23b p23 = hi23 ∧ openE (openM m23b p23) p23 = 7 := by
  have ht := startL_take z23 0 (by decide) (by decide)
  have hu := unsealed (startL_ok z23 z23_len) ht (ctxV_len (exG_len 1#8) 0 0 0) (text := hi23) (by decide)
  have hf : findE m23b.es p23.ep = some 0 := rfl
  have h0 : openE m23b p23 = 0 := by
    rw [openE_at (b := m23b) (p := p23) (i := 0) (l := startL z23) (by unfold m23b; simp) (by rw [p23_len]; rfl) (by rw [p23_len]; decide) hf rfl (by decide) line23b]
    rw [if_neg (by show ¬ takeE (startL z23) 0 ≠ 0; rw [ht]; decide)]
    exact hu.1
  have hp := pkLine_at hf line23b
  refine ⟨h0, by rw [openT_at hp h0]; exact hu.2.1, ?_⟩
  rw [openM_at hp h0]
  have ha := takeE_asked (startL_ok z23 z23_len) ht rfl (by decide)
  rw [openE_at (i := 0) (l := takeL (startL z23) 0) (by decide) (by rw [p23_len]; rfl) (by rw [p23_len]; decide) rfl rfl (by decide) rfl]
  rw [if_pos (by show takeE (takeL (startL z23) 0) 0 ≠ 0; rw [ha]; decide)]
  exact ha
theorem Rd.newK {α : Type} (f : α → Value) (w : World) (E : TypeId) (fr : Nat × Nat) (xs : List α) : Rd f (w.alloc (.cells (xs.map f).toArray E fr)) (w.heap.size + 1) (some ⟨w.heap.size, 0, none⟩) xs := fun _ =>
  ⟨w.heap.size, 0, rfl, by omega, fun j u hu => by
    rw [Nat.zero_add, cell_of_row _ w.heap.size j (xs.map f).toArray E fr (heap_alloc_new w _)]
    simp [hu]⟩
/-- the contracts once more, as steps of a box -/
theorem enter_step {w : World} {base gB : Nat} {b : BX} (h : BoxAt w base gB b) (h4 : b.es.length ≤ 4) (hT : Tab w) (hb1 : 1 < base) (grp s : List (BitVec 8)) (hgl : grp.length = 32) (hsl : s.length = 32) (no leaves leaf : Int) (l0 : -9223372036854775808 ≤ leaves) (l1 : leaves < 9223372036854775808) :
    Calls Tryz.prog 10 #[.pointer (some ⟨gB, 0, none⟩), arrV b8 grp, .int .i64 no, arrV b8 s, .int .i64 leaves, .int .i64 leaf] w fun e w' => e = .returned (errV (enterE b.m grp no leaves leaf)) ∧ ∃ b', b'.m = enterM b.m grp no leaves leaf s ∧ BStep w w' base gB b b' :=
  (enter_any h h4 hT hb1 grp s hgl hsl no leaves leaf l0 l1).mono fun e w' ⟨h1, b', h2, h3, h4, h5⟩ => ⟨h1, b', h2, h3, h4, h5⟩
theorem seal_step {w : World} {base gB : Nat} {b : BX} (h : BoxAt w base gB b) (T : Option Addr) (m d Bm : Nat) (text : List (BitVec 8)) (hr : Rd b8 w Bm T text) (hBm : Bm ≤ w.heap.size) (hTf : ∀ bt off, T = some ⟨bt, off, none⟩ → bt ∉ b.efoot) (hm : text.length = m) {P : PM} (hP : P = sealP b.m text) :
    Calls Tryz.prog 12 #[.pointer (some ⟨gB, 0, none⟩), .slice T m d] w fun e w' => ∃ (A : Option Addr) (n c : Nat), e = .returned (.tuple #[.agg (packetC P.grp P.ep P.fr P.nu A n c).toArray, errV (sealE b.m m)]) ∧ Own b8 w' w.heap.size 5 (.slice A n c) P.sl ∧ ∃ b', b'.m = sealM b.m m ∧ BStep w w' base gB b b' ∧ ∀ k, (Value.slice A n c).ownBlock = some k → k ∉ BX.foot gB b' := by
  subst hP
  exact (seal23_any h T m d Bm text hr hBm hTf hm).mono fun e w' ⟨A, n, c, h1, h2, b', h3, h4, h5, h6, h7⟩ => ⟨A, n, c, h1, h2, b', h3, ⟨h4, h5, h6⟩, h7⟩
theorem open_step {w : World} {base gB : Nat} {b : BX} (h : BoxAt w base gB b) (p : PM) (hg : p.grp.length = 32) (A : Option Addr) (n c Bm : Nat) (hr : Rd b8 w Bm A p.sl) (hBm : Bm ≤ w.heap.size) (hn : p.sl.length = n) (hnc : n ≤ c) (hn63 : n < 9223372036854775808)
    (e1 : -9223372036854775808 ≤ p.ep) (e2 : p.ep < 9223372036854775808) (f1 : -9223372036854775808 ≤ p.fr) (f2 : p.fr < 9223372036854775808) (n1 : -9223372036854775808 ≤ p.nu) (n2 : p.nu < 9223372036854775808) :
    Calls Tryz.prog 13 #[.pointer (some ⟨gB, 0, none⟩), .agg (packetC p.grp p.ep p.fr p.nu A n c).toArray] w fun e w' => ∃ v, e = .returned (.tuple #[v, errV (openE b.m p)]) ∧ Own b8 w' w.heap.size 5 v (openT b.m p) ∧ ∃ b', b'.m = openM b.m p ∧ BStep w w' base gB b b' ∧ ∀ k, v.ownBlock = some k → k ∉ BX.foot gB b' :=
  (open23_any h p hg A n c Bm hr hBm hn hnc hn63 e1 e2 f1 f2 n1 n2).mono fun e w' ⟨v, h1, h2, b', h3, h4, h5, h6, h7⟩ => ⟨v, h1, h2, b', h3, ⟨h4, h5, h6⟩, h7⟩
set_option maxHeartbeats 8000000 in
theorem alive23_any (w : World) (hT : Tab w) : Calls Tryz.prog 8 #[] w fun e w' => e = .returned (.bool true) ∧ Below w.heap.size w w' := by
  have hb1 : ∀ w : World, (Instr.build 23 #[(0, Value.int .u8 1)]).run Tryz.prog w = .ok (.agg ((exG 1#8).map b8).toArray) w := fun w => run_build w _ _ _ (by kernel_rfl)
  have hb2 : ∀ w : World, (Instr.build 23 #[(0, Value.int .u8 2)]).run Tryz.prog w = .ok (.agg ((exG 2#8).map b8).toArray) w := fun w => run_build w _ _ _ (by kernel_rfl)
  have hbase := hT.lt
  go_enter Tryz.func8, Tryz.ntmps8
  go_wp2_with fail
  refine (boxNew_any _).mono ?_
  rintro e w1 ⟨rfl, hA, hk1⟩
  have HA := Lib.hid hA
  have HK1 := Lib.hid hk1
  have hz1 := hA.gB_lt
  clear hA hk1
  go_wp2_with fail
  refine (boxNew_any _).mono ?_
  rintro e w2 ⟨rfl, hB, hk2⟩
  have HT2 := Lib.hid (TwoAt.fresh HA.out hB (Nat.le_refl _) (Nat.le_refl _) hk2)
  have HK2 := Lib.hid (HK1.out.trans (hk2.mono HK1.out.size))
  have hz2 := HT2.out.r.gB_lt
  have hTb : ∀ W, Below w.heap.size w W → Tab W := fun W hb => hT.below hb
  have HTb := Lib.hid hTb
  clear hB hk2 hT hTb
  -- two epochs
  have e1 := enter_step HT2.out.l (by simp) (HTb.out _ HK2.out) hbase (exG 1#8) (exG 2#8) (exG_len _) (exG_len _) 0 2 0 (by decide) (by decide)
  have m1 := enter_first (exG 1#8) (exG 2#8) 0 2 0 rfl (by decide) (by decide) (by decide) (by decide)
  rw [show (BX.m ⟨List.replicate 32 0#8, .slice none 0 0, [], false⟩) = emptyM from rfl, m1.1, m1.2, errV_zero, arrV_mk, arrV_mk] at e1
  have HE1 := Lib.hid e1
  clear e1 m1
  go_wp2_with fail
  refine HE1.out.mono ?_
  rintro e w3 ⟨rfl, a3, hm3, hs3⟩
  have HT3 := Lib.hid (HT2.out.left hs3)
  have HM3 := Lib.hid (show a3.m = m23a from hm3)
  have HK3 := Lib.hid (hs3.toBelow HT2.out.l HK2.out)
  clear hm3 hs3
  have e1 := enter_step HT3.out.r (by simp) (HTb.out _ HK3.out) hbase (exG 1#8) (exG 2#8) (exG_len _) (exG_len _) 0 2 1 (by decide) (by decide)
  have m1 := enter_first (exG 1#8) (exG 2#8) 0 2 1 rfl (by decide) (by decide) (by decide) (by decide)
  rw [show (BX.m ⟨List.replicate 32 0#8, .slice none 0 0, [], false⟩) = emptyM from rfl, m1.1, m1.2, errV_zero, arrV_mk, arrV_mk] at e1
  have HE2 := Lib.hid e1
  clear e1 m1
  go_wp2_with fail
  refine HE2.out.mono ?_
  rintro e w4 ⟨rfl, b4, hm4, hs4⟩
  have HT4 := Lib.hid (HT3.out.right hs4)
  have HM4 := Lib.hid (show b4.m = m23b from hm4)
  have HK4 := Lib.hid (hs4.toBelow HT3.out.r HK3.out)
  clear hm4 hs4
  have kc := fun (w : World) (C : Array Value) (n c : Nat) => Lib.run_convert_bytes_const (P := Tryz.prog) w 28 5 C n c Tryz.underlying28 Tryz.underlying5
  go_wp2_with fail
  -- a text is sealed
  have s1 := seal_step (w := w4.alloc (.cells (hi23.map b8).toArray 5 (2, 3))) (HT4.out.l.alloc _) (some ⟨w4.heap.size, 0, none⟩) 2 2 (w4.heap.size + 1) hi23 (Rd.newK b8 w4 5 (2, 3) hi23) (by simp) (fun bt off e hm => by
    injection e with e; injection e with e _ _
    subst e
    have := (HT4.out.l.foot_lt _ (BX.efoot_sub _ _ _ hm)).2; omega) rfl (P := p23) (by rw [HM3.out]; exact seal23a.2.symm)
  rw [HM3.out, seal23a.1, errV_zero] at s1
  refine s1.mono ?_
  rintro e w5 ⟨A, n, c, rfl, hO, a5, -, hs5, -⟩
  obtain ⟨A5, c5, e5, hr5, -, hc5, -⟩ := hO.shape' p23_len
  injection e5 with e4 e5 e6
  subst e4
  subst e5
  have HT5 := Lib.hid ((HT4.out.below ((Below.refl _ w4).alloc (Nat.le_refl _) _)).left hs5)
  have HK5 := Lib.hid (hs5.toBelow (HT4.out.l.alloc _) (HK4.out.alloc HK4.out.size _))
  have HR5 := Lib.hid hO.rd
  have hcc : 18 ≤ c := by rw [e6]; exact hc5
  have HAb := Lib.hid (show ∀ bt off, A = some ⟨bt, off, none⟩ → bt ∉ BX.foot w1.heap.size b4 from fun bt off e hm => by
    have h5 := (hO.lt bt (by rw [e]; rfl)).1
    have h6 := (HT4.out.r.foot_lt _ hm).2
    rw [World.size_alloc] at h5; omega)
  clear hO hs5 hr5 e6 s1 kc hc5
  have HZ5 := Lib.hid (show Blk (w5.alloc (.cells pkZ.toArray 41)) w5.heap.size 41 pkZ from Blk.new _ _ _)
  go_upto_region 5 with (refine wpList_store_piece rfl 41 (.tmp 3) (.tmp 27) rfl w5.heap.size 0 rfl (packetC p23.grp p23.ep p23.fr p23.nu A 18 c) rfl 41 _ [] pkZ [] HZ5.out (by simp) rfl (by rw [p23_plen]; rfl) (by rw [p23_plen]; exact sizePk) (pkC_one _ _ _ _ _ _ _) ?_; intro w6 hx6 hg6)
  have HP6 := Lib.hid (show Blk w6 w5.heap.size 41 (packetC p23.grp p23.ep p23.fr p23.nu A 18 c) from hx6.cast (by simp))
  have hb6 : Below w5.heap.size w5 w6 := ((Below.refl _ w5).alloc (Nat.le_refl _) _).grown hg6 (by simp) (fun k e => by cases e; exact Nat.le_refl _)
  have HT6 := Lib.hid (HT5.out.below hb6)
  have HK6 := Lib.hid (HK5.out.trans (hb6.mono HK5.out.size))
  have HR6 := Lib.hid ((HR5.out.below hb6).more hb6.size)
  have c34 : w6.cell? ⟨w5.heap.size, 34, none⟩ = some (.int .i64 0) := PkBox.c34 HP6.out (exG_len _)
  have c35 : w6.cell? ⟨w5.heap.size, 35, none⟩ = some (.slice A 18 c) := PkBox.c35 HP6.out (exG_len _)
  have hz6 := HP6.out.lt
  clear hx6 hg6 hb6
  -- and opened
  have HO1 := Lib.hid (show Calls Tryz.prog 13 #[.pointer (some ⟨w1.heap.size, 0, none⟩), .agg (packetC p23.grp p23.ep p23.fr p23.nu A 18 c).toArray] w6 fun e w' => ∃ v, e = .returned (.tuple #[v, .nilIface]) ∧ Own b8 w' w6.heap.size 5 v hi23 ∧ ∃ b', b'.m = openM m23b p23 ∧ BStep w6 w' w.heap.size w1.heap.size b4 b' ∧ ∀ k, v.ownBlock = some k → k ∉ BX.foot w1.heap.size b' by
    have o1 := open_step HT6.out.r p23 (exG_len _) A 18 c w6.heap.size HR6.out (Nat.le_refl _) p23_len hcc (by decide) (by decide) (by decide) (by decide) (by decide) (by decide) (by decide)
    rw [HM4.out, open23b.1, open23b.2.1, errV_zero] at o1
    exact o1)
  go_wp2_with (refine wpList_load_mid rfl 41 (.tmp 3) rfl w5.heap.size 0 rfl (packetC p23.grp p23.ep p23.fr p23.nu A 18 c) _ HP6.out.whole Tryz.underlying41 rfl (by rw [p23_plen]; exact sizePk) ?_)
  refine HO1.out.mono ?_
  rintro e w7 ⟨v7, rfl, ho7, b7, hm7, hs7, hn7⟩
  obtain ⟨A7, c7, rfl, hr7, -, -, -⟩ := ho7.shape' (n := 2) rfl
  have HT7 := Lib.hid (HT6.out.right hs7)
  have HK7 := Lib.hid (hs7.toBelow HT6.out.r HK6.out)
  have HM7 := Lib.hid hm7
  have HO7 := Lib.hid ho7
  have HP7 := Lib.hid (show Blk w7 w5.heap.size 41 (packetC p23.grp p23.ep p23.fr p23.nu A 18 c) from (hs7.frm.block _ hz6 (HT6.out.r.typed_out HP6.out (by decide) (by decide) (by decide) (by decide) (by decide))).trans HP6.out)
  have HR7 := Lib.hid (show Rd b8 w7 w6.heap.size A p23.sl from rd_frm HR6.out (Nat.le_refl _) hs7.frm HAb.out)
  have hz7 := hs7.frm.size
  clear hm7 hs7 ho7 hr7
  have HO2 := Lib.hid (show Calls Tryz.prog 13 #[.pointer (some ⟨w1.heap.size, 0, none⟩), .agg (packetC p23.grp p23.ep p23.fr p23.nu A 18 c).toArray] w7 fun e w' => ∃ v, e = .returned (.tuple #[v, .iface 69 (.int .i64 7)]) ∧ Own b8 w' w7.heap.size 5 v (openT b7.m p23) ∧ ∃ b', b'.m = openM b7.m p23 ∧ BStep w7 w' w.heap.size w1.heap.size b7 b' ∧ ∀ k, v.ownBlock = some k → k ∉ BX.foot w1.heap.size b' by
    have o1 := open_step HT7.out.r p23 (exG_len _) A 18 c w6.heap.size HR7.out hz7 p23_len hcc (by decide) (by decide) (by decide) (by decide) (by decide) (by decide) (by decide)
    rw [show openE b7.m p23 = 7 by rw [HM7.out]; exact open23b.2.2] at o1
    exact o1)
  go_wp2_with (refine wpList_load_mid rfl 41 (.tmp 3) rfl w5.heap.size 0 rfl (packetC p23.grp p23.ep p23.fr p23.nu A 18 c) _ HP7.out.whole Tryz.underlying41 rfl (by rw [p23_plen]; exact sizePk) ?_)
  refine HO2.out.mono ?_
  rintro e w8 ⟨v8, rfl, ho8, b8', -, hs8, -⟩
  obtain ⟨A8, c8, e8, -⟩ := ho8.shape
  obtain ⟨n8, hn8⟩ : ∃ n8, n8 = (openT b7.m p23).length := ⟨_, rfl⟩
  rw [← hn8] at e8
  subst e8
  have HK8 := Lib.hid (hs8.toBelow HT7.out.r HK7.out)
  have HR8 := Lib.hid (show Rd b8 w8 w7.heap.size A7 hi23 from rd_frm HO7.out.rd (Nat.le_refl _) hs8.frm (fun bt off e hm => hn7 bt (by rw [e]; rfl) hm))
  have hr1 : (convert 28 9 (.slice A7 2 c7)).run Tryz.prog w8 = .ok (.string (str hi23)) w8 := run_str (P := Tryz.prog) HR8.out 28 9 5 c7 Tryz.underlying28 Tryz.underlying5 Tryz.underlying9
  have hst : (str hi23).toList = [104, 105] := by rw [ByteArray.toList_eq, str_toList]; rfl
  clear hs8 ho8 hn8
  go_wp2_with fail
  refine (is_any 7 7 _).mono ?_
  rintro e w9 ⟨rfl, rfl⟩
  go_wp2_with fail
  go_ret
  exact ⟨rfl, HK8.out⟩
end Go.Proofs.YtelgjaiknaalkaaGreatDoor
namespace Go.Proofs.YtelgjaiknaalkaaGreatDoor
open Go.RowKit
set_option linter.unusedVariables false
set_option linter.unusedSimpArgs false
set_option maxRecDepth 100000
theorem enter_nil (w : World) (grp s : List (BitVec 8)) (no leaves leaf : Int) : Calls Tryz.prog 10 #[.pointer none, arrV b8 grp, .int .i64 no, arrV b8 s, .int .i64 leaves, .int .i64 leaf] w fun e w' => e = .returned (errV 10) ∧ Below w.heap.size w w' := by
  rw [arrV_mk, arrV_mk]
  have hb : Below w.heap.size w ((w.alloc (.cells (grp.map b8).toArray 23)).alloc (.cells (s.map b8).toArray 23)) := ((Below.refl _ w).alloc (Nat.le_refl _) _).alloc (by simp) _
  have HB := Lib.hid hb
  clear hb
  go_enter Tryz.func10, Tryz.ntmps10
  go_wp2_with fail
  go_ret
  exact ⟨rfl, HB.out⟩
theorem jump_nil (w : World) (n : Int) : Calls Tryz.prog 23 #[.pointer none, .int .i64 n] w fun e w' => e = .returned (.bool false) ∧ Below w.heap.size w w' := by
  have HL := Lib.hid (last_nil w)
  go_enter Tryz.func23, Tryz.ntmps23
  go_wp2_with fail
  refine HL.out.mono ?_
  rintro e w1 ⟨rfl, q, hq⟩
  have HB := Lib.hid (drewN_below hq)
  clear hq
  go_wp2_with fail
  go_quiet (fail)
  go_wp2_with fail
  go_ret
  exact ⟨rfl, below_drewN HB.out _⟩
theorem seal_nil (w : World) (T : Option Addr) (m d : Nat) : Calls Tryz.prog 12 #[.pointer none, .slice T m d] w fun e w' => e = .returned (.tuple #[.agg pkZ.toArray, errV 10]) ∧ Below w.heap.size w w' := by
  obtain ⟨w1, hw1⟩ : ∃ w1, w1 = w.alloc (.cells pkZ.toArray 41) := ⟨_, rfl⟩
  have HZ1 := Lib.hid (show Blk w1 w.heap.size 41 pkZ by rw [hw1]; exact Blk.new _ _ _)
  have HK1 := Lib.hid (show Below w.heap.size w w1 by rw [hw1]; exact (Below.refl _ w).alloc (Nat.le_refl _) _)
  have hz1 : w1.heap.size = w.heap.size + 1 := by rw [hw1]; simp
  have HW1 := Lib.hid hw1
  clear hw1
  have HL := Lib.hid (last_nil w1)
  go_enter Tryz.func12, Tryz.ntmps12
  go_upto_region 1 with fail
  have hw1 := HW1.out
  rw [pkZ_lit] at hw1
  rw [← hw1]
  clear hw1
  go_wp2_with fail
  refine HL.out.mono ?_
  rintro e w2 ⟨rfl, q, hq⟩
  have HB2 := Lib.hid (drewN_below hq)
  have hz2 := HB2.out.size
  clear hq
  go_wp2_with (first
    | (refine wpList_bparts rfl 41 [] rfl pkZ.toArray [] rfl built_pkZ ?_)
    | (refine wpList_store_piece rfl 41 (.tmp 4) (.tmp 15) rfl w.heap.size 0 rfl pkZ rfl 41 _ [] pkZ [] (HZ1.out.below HB2.out (by omega)) (by simp) rfl rfl sizePk (pkC_one _ _ _ _ _ _ _) ?_; intro w9 hx9 hg9))
  have HX9 := Lib.hid (show Blk w9 w.heap.size 41 pkZ from hx9.cast (by simp))
  refine bodyPost_ret (v := .tuple #[.agg pkZ.toArray, errV 10]) (results_blk_tmp (g := w.heap.size) rfl _ _ _ _ _ _ rfl rfl HX9.out Tryz.underlying41 rfl sizePk) rfl ?_
  have hbz := (HK1.out.trans (HB2.out.mono (by omega)))
  exact ⟨rfl, hbz.grown hg9 hbz.size (fun k e => by cases e; exact Nat.le_refl _)⟩
set_option maxHeartbeats 4000000 in
theorem packetNone_walk (A : Option Addr) (m c : Nat) (n : Int) (w : World) (hT : Tab w) :
    Calls Tryz.prog 6 #[.slice A m c, .int .i64 n] w fun e w' => e = .returned (.bool true) ∧ Below w.heap.size w w' := by
  have HA := Lib.hid (alive23_any w hT)
  have hb0 : ∀ w : World, (Instr.build 23 #[]).run Tryz.prog w = .ok (.agg ((List.replicate 32 0#8).map b8).toArray) w := fun w => run_build w _ _ _ (by kernel_rfl)
  have HIs := Lib.hid (show ∀ w : World, Calls Tryz.prog 25 #[errV 10, .int .i64 10] w fun e w' => e = .returned (.bool true) ∧ w = w' from fun w => is_any 10 10 w)
  have HCl := Lib.hid (fun w => clear_nil w)
  have HSe := Lib.hid (fun w => seal_nil w A m c)
  have HOp := Lib.hid (show ∀ w : World, Calls Tryz.prog 13 #[.pointer none, .agg pkZ.toArray] w fun e w' => e = .returned (.tuple #[.slice none 0 0, errV 10]) ∧ Below w.heap.size w w' from fun w => open_nil w .nilIface (List.replicate 32 0#8) 0 0 0 none 0 0)
  have HEn := Lib.hid (show ∀ w : World, Calls Tryz.prog 10 #[.pointer none, .agg ((List.replicate 32 0#8).map b8).toArray, .int .i64 n, .agg ((List.replicate 32 0#8).map b8).toArray, .int .i64 1, .int .i64 0] w fun e w' => e = .returned (errV 10) ∧ Below w.heap.size w w' from fun w => by
    have h := enter_nil w (List.replicate 32 0#8) (List.replicate 32 0#8) n 1 0
    rw [arrV_mk] at h; exact h)
  have HEp := Lib.hid (fun w => epochs_nil w)
  have HNx := Lib.hid (fun w => next_nil w)
  have HJp := Lib.hid (fun w => jump_nil w n)
  clear hT
  go_enter Tryz.func6, Tryz.ntmps6
  go_wp2_with fail
  refine HA.out.mono ?_
  rintro e w1 ⟨rfl, hb1⟩
  have HB1 := Lib.hid hb1
  clear hb1
  go_wp2_with fail
  refine (HCl.out _).mono ?_
  rintro e w1' ⟨rfl, rfl⟩
  go_wp2_with fail
  refine (HSe.out _).mono ?_
  rintro e w2 ⟨rfl, hb2⟩
  have HB2 := Lib.hid (HB1.out.trans (hb2.mono HB1.out.size))
  have HZ2 := Lib.hid (show Blk (w2.alloc (.cells pkZ.toArray 41)) w2.heap.size 41 pkZ from Blk.new _ _ _)
  clear hb2
  go_upto_region 6 with (refine wpList_store_piece rfl 41 (.tmp 6) (.tmp 18) rfl w2.heap.size 0 rfl pkZ rfl 41 _ [] pkZ [] HZ2.out (by simp) rfl rfl sizePk (pkC_one _ _ _ _ _ _ _) ?_; intro w3 hx3 hg3)
  have HB3 := Lib.hid (show Below w.heap.size w w3 from (HB2.out.alloc HB2.out.size _).grown hg3 (Nat.le_trans HB2.out.size (by simp)) (fun k e => by cases e; exact HB2.out.size))
  clear hx3 hg3
  go_wp2_with (refine wpList_bparts rfl 41 [] rfl pkZ.toArray [] rfl built_pkZ ?_)
  refine (HOp.out _).mono ?_
  rintro e w4 ⟨rfl, hb4⟩
  have HB4 := Lib.hid (HB3.out.trans (hb4.mono HB3.out.size))
  clear hb4
  go_wp2_with fail
  refine (HIs.out _).mono ?_
  rintro e w4' ⟨rfl, rfl⟩
  go_wp2_with fail
  refine (HIs.out _).mono ?_
  rintro e w4' ⟨rfl, rfl⟩
  go_wp2_with fail
  refine (HEn.out _).mono ?_
  rintro e w5 ⟨rfl, hb5⟩
  have HB5 := Lib.hid (HB4.out.trans (hb5.mono HB4.out.size))
  clear hb5
  go_wp2_with fail
  refine (HIs.out _).mono ?_
  rintro e w5' ⟨rfl, rfl⟩
  go_wp2_with fail
  refine (HEp.out _).mono ?_
  rintro e w5' ⟨rfl, rfl⟩
  go_wp2_with fail
  refine (HNx.out _).mono ?_
  rintro e w6 ⟨rfl, q, hq⟩
  have HB6 := Lib.hid (HB5.out.trans ((drewN_below hq).mono HB5.out.size))
  clear hq
  go_wp2_with fail
  refine (HJp.out _).mono ?_
  rintro e w7 ⟨rfl, hb7⟩
  have HB7 := Lib.hid (HB6.out.trans (hb7.mono HB6.out.size))
  clear hb7
  go_wp2_with fail
  first
    | exact ⟨by simp, .bool true, by kernel_rfl, rfl, HB7.out⟩
    | (go_ret; exact ⟨rfl, HB7.out⟩)
end Go.Proofs.YtelgjaiknaalkaaGreatDoor
namespace Go.Proofs.YtelgjaiknaalkaaGreatDoor
open Go.RowKit
set_option linter.unusedVariables false
theorem gTab : Tryz.prog.globalNamed "math/bits.deBruijn64tab" = some 1 := by kernel_rfl
theorem gTabType : (Tryz.prog.globals[1]?).map (·.type) = some 157 := by kernel_rfl
theorem cellsTab : Tryz.prog.cellsOf 157 = 64 := by kernel_rfl
theorem cellsByte : Tryz.prog.cellsOf 5 = 1 := by kernel_rfl
def tabInts : List Int := Lib.deBruijn64tab.map Int.ofNat
def rowsLaid : List (String × DataW Unit) := [("math/bits.deBruijn32tab", Rows.laid_math_bits_deBruijn32tab), ("math/bits.deBruijn64tab", Rows.laid_math_bits_deBruijn64tab)]
theorem tab_eq : (Rows.laid_math_bits_deBruijn64tab : DataW Unit) = Lib.tabData .u8 tabInts := rfl
theorem tab_at : ∀ j, j < 64 → tabInts.getD j 0 = ((Lib.deBruijn64tab.getD j 0 : Nat) : Int) := by decide +kernel
theorem tab_of_row {W : World} (h : laidMetH Tryz.prog rowsLaid W) : Tab W := by
  have h1 : laidMet Tryz.prog rowsLaid W := h
  have h2 : laidMet Tryz.prog [("math/bits.deBruijn64tab", Lib.tabData .u8 tabInts)] W := by
    rw [← tab_eq]; exact h1.tail
  have h3 : Lib.TabIs Tryz.prog W "math/bits.deBruijn64tab" .u8 tabInts := Lib.tabIs_of_head (rest := []) gTab gTabType Tryz.underlying157 Tryz.underlying5 cellsByte cellsTab h2
  intro j hj
  have hj64 : j < 64 := hj
  have := h3.cell gTab j (by simpa [tabInts, Lib.deBruijn64tab] using hj64)
  rw [tab_at j hj64] at this
  exact this

def layCells (vs : Array Value) : Obj → Obj
  | .cells _ t frozen => .cells vs t frozen
  | o => o
/-- a world for a witness: the settled one, with the tables as their initialisers lay them -/
noncomputable def laidWorld (os : Os) : World :=
  { World.holding Tryz.prog os ⟨#[], #[], []⟩ with heap := ((World.holding Tryz.prog os ⟨#[], #[], []⟩).heap.modify 0 (layCells (Lib.deBruijn32tab.map fun n => Value.int .u8 (Int.ofNat n)).toArray)).modify 1 (layCells (Lib.deBruijn64tab.map fun n => Value.int .u8 (Int.ofNat n)).toArray) }
end Go.Proofs.YtelgjaiknaalkaaGreatDoor
