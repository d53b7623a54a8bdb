/- CONTRACTS: what each Take of package wire answers, and what the document's Put makes of it: in one form, good or not. -/
import Derived.Test.YtloglpamnalmeaaRinTree
import Derived.Test.YtloglpamnalmeaaRinPr
import Derived.Test.YtloglpamnalmeaaRComm
import Derived.Test.YtloglpamnalmeaaRTakeIK
import Derived.Test.YtloglpamnalmeaaRTakeW
import Derived.Test.YtloglpamnalmeaaBase
import Derived.Great.BuildSlice
import Derived.Test.YtloglpamnalmeaaCopy
import Derived.Deep.Cut
namespace Go.Proofs.Ytloglpamnalmeaa
open Go.RowKit
set_option linter.unusedVariables false
set_option linter.unusedSimpArgs false

def eV (q : Bool) : Value := if q = true then .nilIface else .iface 108 (.int .i64 3)
theorem chk_true {bad : Bool} {rest bs : List (BitVec 8)} {r : Bool} {X : List (BitVec 8)} (h : chkGood bad rest bs r X = true) : (if r = true then [] else X) = bs := by
  unfold chkGood at h
  simp only [Bool.and_eq_true, Bool.not_eq_true', beq_iff_eq] at h
  rw [h.1.2, if_neg (by simp), h.2]
/-- what is put again -/
def PutsBack (f : Nat) (v : Value) (q : Bool) (bs : List (BitVec 8)) (w : World) : Prop :=
  ∀ w', Below w.heap.size w w' → Calls Try.prog f #[v] w' fun e w'' => ∃ u r X, e = .returned (.tuple #[u, .bool r]) ∧ Own b8 w'' w'.heap.size 5 u X ∧ (q = true → X = bs) ∧ Below w'.heap.size w' w''
theorem PutsBack.below {f : Nat} {v : Value} {q : Bool} {bs : List (BitVec 8)} {w w1 : World} (h : PutsBack f v q bs w) (hb : Below w.heap.size w w1) : PutsBack f v q bs w1 := fun w' hb' => h w' (hb.trans (hb'.mono hb.size))
section
variable {w : World} {B' : Nat} {A : Option Addr} {n c : Nat} {bs : List (BitVec 8)}
theorem utree_any (hr : Rd b8 w B' A bs) (hB' : B' ≤ w.heap.size) (hn : bs.length = n) (hnc : n ≤ c) (hy : n ≤ 1000000) :
    Calls Try.prog 28 #[.slice A n c] w fun e w' => ∃ A1 n1 c1, e = .returned (.tuple #[.slice A1 n1 c1, eV (goodT bs)]) ∧ Below w.heap.size w w' ∧ (goodT bs = false → n1 = 0) ∧ PutsBack 27 (.slice A1 n1 c1) (goodT bs) bs w' := by
  refine (takeTree_any hr hB' hn hnc hy).mono fun e w' h => ?_
  obtain ⟨hb, h⟩ := h
  rcases h with ⟨hg, v, ts, he, ho, hx⟩ | ⟨hg, he⟩
  · obtain ⟨A1, c1, rfl, -, -, -, -⟩ := ho.shape
    refine ⟨A1, ts.length, c1, by rw [hg]; exact he, hb, (fun h => by rw [hg] at h; cases h), fun w1 hb1 => ?_⟩
    have hum : ∀ t ∈ ts, t.x.um.length ≤ 300 := fun t ht => by
      have h1 : t.x ∈ (pList pNode (bs, false)).1 := by rw [← hx]; exact List.mem_map_of_mem ht
      have := pMany_all pNode (fun x => x.um.length ≤ 255) (fun s => pNode_um s) _ _ _ h1
      omega
    have hl : ts.length ≤ 255 := by rw [← List.length_map (f := fun t : TN => t.x), hx]; exact pList_len _ _
    refine (refPutTree_any (c := c1) (ownT_rd (ho.below hb1 (Nat.le_refl _))) (Nat.le_refl _) rfl (by omega) hum).mono fun e w2 h2 => ?_
    obtain ⟨u, he2, ho2, hb2⟩ := h2
    refine ⟨u, _, _, he2, ho2, fun hq => ?_, hb2⟩
    unfold goodT at hq
    rw [treeBad_X, treeB_X, hx]
    exact chk_true hq
  · refine ⟨none, 0, 0, by rw [hg]; exact he, hb, fun _ => rfl, fun w1 hb1 => ?_⟩
    refine (refPutTree_any (c := 0) (ts := []) (ownT_rd (OwnT.nil_ w1 0)) (Nat.le_refl _) rfl (Nat.zero_le _) (by simp)).mono fun e w2 h2 => ?_
    obtain ⟨u, he2, ho2, hb2⟩ := h2
    exact ⟨u, _, _, he2, ho2, (fun hq => by rw [hg] at hq; cases hq), hb2⟩
theorem uprop_any (hr : Rd b8 w B' A bs) (hB' : B' ≤ w.heap.size) (hn : bs.length = n) (hnc : n ≤ c) (hy : n ≤ 1000000) :
    Calls Try.prog 34 #[.slice A n c] w fun e w' => ∃ cs : List Value, e = .returned (.tuple #[.agg cs.toArray, eV (goodP bs)]) ∧ Below w.heap.size w w' ∧ cs.length = 263 ∧ (∀ u ∈ cs, u.oneCell' = true) ∧ PutsBack 33 (.agg cs.toArray) (goodP bs) bs w' := by
  refine (takeProp_any hr hB' hn hnc hy).mono fun e w' h => ?_
  obtain ⟨hb, h⟩ := h
  rcases h with ⟨hg, A1, c1, he, ho⟩ | ⟨hg, he⟩
  · have hok : (pProp (bs, false)).1.Ok := prV_ok _
    have hum : (pProp (bs, false)).1.leaf.um.length ≤ 300 := by
      show (prV (bs, false)).leaf.um.length ≤ 300
      rw [prV_leaf]; have := (prLeaf_ok (prK (bs, false)) (prS5 (bs, false))).2; omega
    refine ⟨propC (pProp (bs, false)).1 A1 c1, by rw [hg]; exact he, hb, propC_len hok _ _, propC_one _ _ _, fun w1 hb1 => ?_⟩
    refine (refPutProp_any _ hok (c := c1) (ho.below hb1 (Nat.le_refl _)).rd (Nat.le_refl _) hum).mono fun e w2 h2 => ?_
    obtain ⟨u, he2, ho2, hb2⟩ := h2
    exact ⟨u, _, _, he2, ho2, (fun hq => by unfold goodP at hq; exact chk_true hq), hb2⟩
  · refine ⟨zerosProposal, by rw [hg]; exact he, hb, zerosProposal_len, zerosProposal_one, fun w1 hb1 => ?_⟩
    refine (refPutProp_any zProp zProp_ok (A := none) (c := 0) (B' := 0) (Rd.nil_ _ _ _ _) (Nat.zero_le _) (by simp [zProp, zNode])).mono fun e w2 h2 => ?_
    obtain ⟨u, he2, ho2, hb2⟩ := h2
    exact ⟨u, _, _, he2, ho2, (fun hq => by rw [hg] at hq; cases hq), hb2⟩
theorem ownC_zero (w : World) (B : Nat) : OwnC w B zComm := ⟨zero32_len, zero32_len, zero32_len, by decide, by decide, by decide, OwnP.nil_ _ _, by decide, zNode_ok, Own.nil_ _ _ _ _, by decide, OwnS.nil_ _ _, by decide⟩
theorem ucomm_any (hr : Rd b8 w B' A bs) (hB' : B' ≤ w.heap.size) (hn : bs.length = n) (hnc : n ≤ c) (hy : n ≤ 1000000) :
    Calls Try.prog 38 #[.slice A n c] w fun e w' => ∃ cs : List Value, e = .returned (.tuple #[.agg cs.toArray, eV (goodC bs)]) ∧ Below w.heap.size w w' ∧ cs.length = 263 ∧ (∀ u ∈ cs, u.oneCell' = true) ∧ PutsBack 37 (.agg cs.toArray) (goodC bs) bs w' := by
  refine (takeComm_any hr hB' hn hnc hy).mono fun e w' h => ?_
  obtain ⟨hb, h⟩ := h
  rcases h with ⟨hg, x, he, ho, hx⟩ | ⟨hg, he⟩
  · refine ⟨commC x, by rw [hg]; exact he, hb, commC_len ho.rd.len, commC_one _, fun w1 hb1 => ?_⟩
    refine (refPutComm_any x (ho.below hb1 (Nat.le_refl _)).rd (Nat.le_refl _)).mono fun e w2 h2 => ?_
    obtain ⟨u, he2, ho2, hb2⟩ := h2
    exact ⟨u, _, _, he2, ho2, (fun hq => by unfold goodC at hq; rw [commBad_X, commB_X, hx]; exact chk_true hq), hb2⟩
  · refine ⟨zerosCommit, by rw [hg]; exact he, hb, zerosCommit_len, zerosCommit_one, fun w1 hb1 => ?_⟩
    refine (refPutComm_any zComm (ownC_zero w1 0).rd (Nat.le_refl _)).mono fun e w2 h2 => ?_
    obtain ⟨u, he2, ho2, hb2⟩ := h2
    exact ⟨u, _, _, he2, ho2, (fun hq => by rw [hg] at hq; cases hq), hb2⟩
theorem zInf_ok' : zInf.Ok := ⟨by decide, by decide, by decide, by decide, by decide, by decide⟩
theorem uinfo_any (hr : Rd b8 w B' A bs) (hB' : B' ≤ w.heap.size) (hn : bs.length = n) (hnc : n ≤ c) (hy : n ≤ 1000000) :
    Calls Try.prog 31 #[.slice A n c] w fun e w' => ∃ (cs : List Value) (A1 : Option Addr) (n1 c1 : Nat), e = .returned (.tuple #[.agg cs.toArray, eV (goodI bs)]) ∧ Below w.heap.size w w' ∧ cs.length = 163 ∧ (∀ u ∈ cs, u.oneCell' = true) ∧ cs[33]? = some (.slice A1 n1 c1) ∧ (goodI bs = false → n1 = 0) ∧ PutsBack 30 (.agg cs.toArray) (goodI bs) bs w' := by
  refine (takeInfo_any hr hB' hn hnc hy).mono fun e w' h => ?_
  obtain ⟨hb, h⟩ := h
  have g33 : ∀ (x : InfD) (hx : x.Ok) A1 n1 c1, (infC x A1 n1 c1)[33]? = some (.slice A1 n1 c1) := fun x hx A1 n1 c1 => by
    unfold infC
    rw [List.getElem?_append_right (by simp [hx.grp])]
    simp [hx.grp]
  rcases h with ⟨hg, A1, c1, ts, he, ho, hx⟩ | ⟨hg, he⟩
  · have hok := infV_ok (bs, false)
    refine ⟨infC (infV (bs, false)) A1 ts.length c1, A1, ts.length, c1, by rw [hg]; exact he, hb, infC_len hok _ _ _, infC_one _ _ _ _, g33 _ hok _ _ _, (fun h => by rw [hg] at h; cases h), fun w1 hb1 => ?_⟩
    have hum : ∀ t ∈ ts, t.x.um.length ≤ 300 := fun t ht => by
      have h1 : t.x ∈ (pList pNode (infS2 (bs, false))).1 := by rw [show (pList pNode (infS2 (bs, false))).1 = infN (bs, false) from rfl, ← hx]; exact List.mem_map_of_mem ht
      have := pMany_all pNode (fun x => x.um.length ≤ 255) (fun s => pNode_um s) _ _ _ h1
      omega
    have hl : ts.length ≤ 255 := by rw [← List.length_map (f := fun t : TN => t.x), hx]; exact pList_len pNode (infS2 (bs, false))
    refine (refPutInf_any (c := c1) _ hok (ownT_rd (ho.below hb1 (Nat.le_refl _))) (Nat.le_refl _) rfl (by omega) hum).mono fun e w2 h2 => ?_
    obtain ⟨u, he2, ho2, hb2⟩ := h2
    exact ⟨u, _, _, he2, ho2, (fun hq => by unfold goodI at hq; rw [infBad_X, infB_X, hx]; exact chk_true hq), hb2⟩
  · refine ⟨zerosInfo, none, 0, 0, by rw [hg]; exact he, hb, zerosInfo_len, zerosInfo_one, g33 _ zInf_ok' _ _ _, fun _ => rfl, fun w1 hb1 => ?_⟩
    refine (refPutInf_any (c := 0) zInf zInf_ok' (ts := []) (ownT_rd (OwnT.nil_ w1 0)) (Nat.le_refl _) rfl (Nat.zero_le _) (by simp)).mono fun e w2 h2 => ?_
    obtain ⟨u, he2, ho2, hb2⟩ := h2
    exact ⟨u, _, _, he2, ho2, (fun hq => by rw [hg] at hq; cases hq), hb2⟩
set_option maxHeartbeats 1000000 in
theorem uwel_any (hr : Rd b8 w B' A bs) (hB' : B' ≤ w.heap.size) (hn : bs.length = n) (hnc : n ≤ c) (hy : n ≤ 1000000) :
    Calls Try.prog 21 #[.slice A n c] w fun e w' => ∃ cs : List Value, e = .returned (.tuple #[.agg cs.toArray, eV (goodW bs)]) ∧ Below w.heap.size w w' ∧ cs.length = 3 ∧ (∀ u ∈ cs, u.oneCell' = true) ∧ PutsBack 20 (.agg cs.toArray) (goodW bs) bs w' := by
  refine (takeWelcome_any hr hB' hn hnc hy).mono fun e w' h => ?_
  obtain ⟨hb, h⟩ := h
  have l1 : (parseW bs).s1.length < 65536 := rowO_len _
  have l2 : (parseW bs).s2.length < 65536 := rowO_len _
  rcases h with ⟨hg, A1, c1, A2, c2, he, ho, ho'⟩ | ⟨hg, he⟩
  · refine ⟨welC _ A1 _ c1 A2 _ c2, by rw [hg]; exact he, hb, rfl, welC_one _ _ _ _ _ _ _, fun w1 hb1 => ?_⟩
    refine (refPutWelcome_any _ A1 _ c1 A2 _ c2 w1.heap.size _ _ w1 (ho.below hb1 (Nat.le_refl _)).rd (ho'.below hb1 (Nat.le_refl _)).rd (Nat.le_refl _) rfl rfl (by omega) (by omega)).mono fun e w2 h2 => ?_
    obtain ⟨u, he2, ho2, hb2⟩ := h2
    exact ⟨u, _, _, he2, ho2, (fun hq => by unfold goodW at hq; exact chk_true hq), hb2⟩
  · refine ⟨zerosWelcome, by rw [hg]; exact he, hb, rfl, zerosWelcome_one, fun w1 hb1 => ?_⟩
    refine (refPutWelcome_any 0 none 0 0 none 0 0 0 [] [] w1 (Rd.nil_ _ _ _ _) (Rd.nil_ _ _ _ _) (Nat.zero_le _) rfl rfl (by omega) (by omega)).mono fun e w2 h2 => ?_
    obtain ⟨u, he2, ho2, hb2⟩ := h2
    exact ⟨u, _, _, he2, ho2, (fun hq => by rw [hg] at hq; cases hq), hb2⟩
set_option maxHeartbeats 1000000 in
theorem upk_any (hr : Rd b8 w B' A bs) (hB' : B' ≤ w.heap.size) (hn : bs.length = n) (hnc : n ≤ c) (hy : n ≤ 1000000) :
    Calls Try.prog 16 #[.slice A n c] w fun e w' => ∃ cs : List Value, e = .returned (.tuple #[.agg cs.toArray, eV (goodPk bs)]) ∧ Below w.heap.size w w' ∧ cs.length = 36 ∧ (∀ u ∈ cs, u.oneCell' = true) ∧ PutsBack 14 (.agg cs.toArray) (goodPk bs) bs w' := by
  refine (takePacket_any hr hB' hn hnc hy).mono fun e w' h => ?_
  obtain ⟨hb, h⟩ := h
  have hs : (parsePk bs).sum.length = 32 := tkO_len _ _
  have hl : (parsePk bs).text.length < 65536 := by
    show (tkO _ _).length < 65536
    rw [tkO_len]
    exact beVal_lt 2 _ (tkO_len _ _)
  have hgd : goodPk bs = chkGood (parsePk bs).bad (parsePk bs).rest bs (pkBad (parsePk bs).epoch (parsePk bs).frm (parsePk bs).number (parsePk bs).text.length) (pkBytes (parsePk bs).sum (parsePk bs).epoch (parsePk bs).frm (parsePk bs).number (parsePk bs).text) := rfl
  generalize parsePk bs = pk at h hs hl hgd
  rcases h with ⟨hg, A2, c2, he, ho⟩ | ⟨hg, he⟩
  · refine ⟨packetC pk.sum pk.epoch pk.frm pk.number A2 pk.text.length c2, by rw [hg]; exact he, hb, packetC_len _ _ _ _ _ _ _ hs, packetC_one _ _ _ _ _ _ _, fun w1 hb1 => ?_⟩
    refine (refPutPacket_any pk.sum pk.epoch pk.frm pk.number A2 pk.text.length c2 w1.heap.size pk.text w1 hs (ho.below hb1 (Nat.le_refl _)).rd (Nat.le_refl _) rfl (by omega)).mono fun e w2 h2 => ?_
    obtain ⟨u, he2, ho2, hb2⟩ := h2
    exact ⟨u, _, _, he2, ho2, (fun hq => by rw [hgd] at hq; exact chk_true hq), hb2⟩
  · refine ⟨packetC zero32 0 0 0 none 0 0, by rw [hg]; exact he, hb, packetC_len _ _ _ _ _ _ _ zero32_len, packetC_one _ _ _ _ _ _ _, fun w1 hb1 => ?_⟩
    refine (refPutPacket_any zero32 0 0 0 none 0 0 0 [] w1 zero32_len (Rd.nil_ _ _ _ _) (Nat.zero_le _) rfl (by omega)).mono fun e w2 h2 => ?_
    obtain ⟨u, he2, ho2, hb2⟩ := h2
    exact ⟨u, _, _, he2, ho2, (fun hq => by rw [hg] at hq; cases hq), hb2⟩
end
end Go.Proofs.Ytloglpamnalmeaa

/- A guarded call behind an '||' (two moves, the call, the choice), taken without parting the way. -/
namespace Go.Proofs.Ytloglpamnalmeaa
open Go.RowKit
set_option linter.unusedVariables false
set_option linter.unusedSimpArgs false
theorem wp_value_of {P : Program} {Q : Exit → Act → World → Prop} {K : Act → World → Prop} {o : Oper} {a : Act} {w : World} (v : Value) (hrun : (execOp a.eval o).run P w = .ok (.value v) w) (h : K (a.put o.dst v) w) : o.wp P a w K Q := by
  unfold Oper.wp; rw [hrun, Oper.upon_value]; exact h
theorem run_pickB {P : Program} (ev : Operand → Value) (w : World) {d : Option Tmp} {t6 : TypeId} {p6 : String} {f6 : Array Edge} {g6 : Option (Nat × Bool)} (c x e : Operand) (b : Bool) (hc : ev c = .bool b) :
    (execOp ev { dst := d, op := .pick c x e, type := t6, pos := p6, after := f6, guard := g6 }).run P w = .ok (.value (if b then ev x else ev e)) w := by
  simp [execOp, hc, Result.andThen, asBool]
theorem run_moveV {P : Program} (ev : Operand → Value) (w : World) {d : Option Tmp} {t6 : TypeId} {p6 : String} {f6 : Array Edge} {g6 : Option (Nat × Bool)} (x : Operand) :
    (execOp ev { dst := d, op := .move x, type := t6, pos := p6, after := f6, guard := g6 }).run P w = .ok (.value (ev x)) w := by
  simp [execOp, Result.andThen]
theorem run_callF {P : Program} (ev : Operand → Value) (w : World) {d : Option Tmp} {t6 : TypeId} {p6 : String} {f6 : Array Edge} {g6 : Option (Nat × Bool)} (fn : Nat) (x y : Operand) (ty : Array TypeId) (hf : ev (.func fn) = .func (.func fn) #[] #[]) (hcf : ∀ args, (callFunc fn args).run P w = .ok (.enter fn args) w) :
    (execOp ev { dst := d, op := .call { callee := .value (.func fn), args := #[x, y], argTypes := ty }, type := t6, pos := p6, after := f6, guard := g6 }).run P w = .ok (.enter fn #[ev x, ev y]) w := by
  simp [execOp, resolve, invoke, hf, Result.andThen, Deferred.ofValue, hcf]
theorem s_move {P : Program} {ops : Array Oper} {Q : Exit → Act → World → Prop} {rest : List Oper} {a : Act} {w : World} {d : Nat} {t : TypeId} {p : String} {f : Array Edge} {g : Option (Nat × Bool)} {x : Operand} (v : Value)
    (hw : Region.wanted { dst := some d, op := .move x, type := t, pos := p, after := f, guard := g } (yielded ops a.tmps) = true) (hv : a.eval x = v) (h : wpList P ops Q rest (a.put (some d) v) w) :
    wpList P ops Q ({ dst := some d, op := .move x, type := t, pos := p, after := f, guard := g } :: rest) a w := by
  refine wpList_step fun K hK => ?_
  rw [if_pos hw]
  exact wp_value_of _ (run_moveV _ _ _) (hK _ _ (by rw [hv]; exact h))
theorem run_notB {P : Program} (ev : Operand → Value) (w : World) {d : Option Tmp} {t6 t7 : TypeId} {p6 : String} {f6 : Array Edge} {g6 : Option (Nat × Bool)} (x : Operand) (b : Bool) (hc : ev x = .bool b) :
    (execOp ev { dst := d, op := .unOp .not t7 x, type := t6, pos := p6, after := f6, guard := g6 }).run P w = .ok (.value (.bool (!b))) w := by
  simp [execOp, hc, Result.andThen, go_sem]
theorem s_not {P : Program} {ops : Array Oper} {Q : Exit → Act → World → Prop} {rest : List Oper} {a : Act} {w : World} {d : Nat} {t t7 : TypeId} {p : String} {f : Array Edge} {g : Option (Nat × Bool)} {x : Operand} (b : Bool)
    (hw : Region.wanted { dst := some d, op := .unOp .not t7 x, type := t, pos := p, after := f, guard := g } (yielded ops a.tmps) = true) (hv : a.eval x = .bool b) (h : wpList P ops Q rest (a.put (some d) (.bool (!b))) w) :
    wpList P ops Q ({ dst := some d, op := .unOp .not t7 x, type := t, pos := p, after := f, guard := g } :: rest) a w := by
  refine wpList_step fun K hK => ?_
  rw [if_pos hw]
  exact wp_value_of _ (run_notB _ _ _ b hv) (hK _ _ h)
theorem s_pick {P : Program} {ops : Array Oper} {Q : Exit → Act → World → Prop} {rest : List Oper} {a : Act} {w : World} {d : Nat} {t : TypeId} {p : String} {f : Array Edge} {g : Option (Nat × Bool)} {c x e : Operand} (v : Value)
    (hw : Region.wanted { dst := some d, op := .pick c x e, type := t, pos := p, after := f, guard := g } (yielded ops a.tmps) = true) (hc : a.eval c = .bool true) (hv : a.eval x = v) (h : wpList P ops Q rest (a.put (some d) v) w) :
    wpList P ops Q ({ dst := some d, op := .pick c x e, type := t, pos := p, after := f, guard := g } :: rest) a w := by
  refine wpList_step fun K hK => ?_
  rw [if_pos hw]
  exact wp_value_of _ (run_pickB _ _ _ _ _ _ hc) (hK _ _ (by rw [hv]; exact h))
/-- 'if q, then X': closed to simp -/
def IfT (q : Bool) (X : Prop) : Prop := q = true → X
theorem wpList_or_call {P : Program} {ops : Array Oper} {Q : Exit → Act → World → Prop} {rest : List Oper} {a : Act} {w : World} (q : Bool) (vx vy : Value) {fn : Nat} (hc : IfT q (Calls P fn #[vx, vy] w fun e w' => e = .returned (.bool true) ∧ w = w'))
    {t3 t4 t5 t6 : TypeId} {p3 p4 p5 p6 : String} {f3 f4 f5 f6 : Array Edge} {i d3 d4 d5 d6 : Nat} {x y ax ay c6 e6 : Operand} {g6 : Option (Nat × Bool)} {ty : Array TypeId}
    (hcf : ∀ args, (callFunc fn args).run P w = .ok (.enter fn args) w) (hw3 : yielded ops a.tmps i = some (!q))
    (hw4 : ∀ v, yielded ops (a.put (some d3) v).tmps i = some (!q))
    (hw5 : ∀ v u, yielded ops ((a.put (some d3) v).put (some d4) u).tmps i = some (!q))
    (hw6 : ∀ v u z, Region.wanted { dst := some d6, op := .pick c6 (.const (.bool true)) e6, type := t6, pos := p6, after := f6, guard := g6 } (yielded ops (((a.put (some d3) v).put (some d4) u).put (some d5) z).tmps) = true)
    (hx : a.eval x = vx) (hy : ∀ v, (a.put (some d3) v).eval y = vy)
    (hax : ∀ u, ((a.put (some d3) vx).put (some d4) u).eval ax = vx) (hay : ∀ v, ((a.put (some d3) v).put (some d4) vy).eval ay = vy)
    (hp : ∀ v u z, (((a.put (some d3) v).put (some d4) u).put (some d5) z).eval c6 = .bool (!q)) (he : ∀ v u z, (((a.put (some d3) v).put (some d4) u).put (some d5) z).eval e6 = z)
    (h : ∀ v u z, wpList P ops Q rest ((((a.put (some d3) v).put (some d4) u).put (some d5) z).put (some d6) (.bool true)) w) :
    wpList P ops Q ({ dst := some d3, op := .move x, type := t3, pos := p3, after := f3, guard := some (i, false) } :: { dst := some d4, op := .move y, type := t4, pos := p4, after := f4, guard := some (i, false) } ::
      { dst := some d5, op := .call { callee := .value (.func fn), args := #[ax, ay], argTypes := ty }, type := t5, pos := p5, after := f5, guard := some (i, false) } ::
      { dst := some d6, op := .pick c6 (.const (.bool true)) e6, type := t6, pos := p6, after := f6, guard := g6 } :: rest) a w := by
  cases q with
  | false =>
    refine wpList_skip (by simp [Region.wanted, hw3]) ?_
    refine wpList_skip (by simp [Region.wanted, hw4]) ?_
    refine wpList_skip (by simp [Region.wanted, hw5]) ?_
    refine wpList_step fun K hK => ?_
    rw [if_pos (hw6 _ _ _)]
    exact wp_value_of _ (run_pickB _ _ _ _ _ _ (hp _ _ _)) (hK _ _ (h undef undef undef))
  | true =>
    refine wpList_step fun K hK => ?_
    rw [if_pos (by simp [Region.wanted, hw3])]
    refine wp_value_of _ (run_moveV _ _ _) (hK _ _ ?_)
    rw [hx]
    refine wpList_step fun K hK => ?_
    rw [if_pos (by simp [Region.wanted, hw4])]
    refine wp_value_of _ (run_moveV _ _ _) (hK _ _ ?_)
    rw [hy]
    refine wpList_step fun K hK => ?_
    rw [if_pos (by simp [Region.wanted, hw5])]
    unfold Oper.wp
    rw [run_callF _ _ _ _ _ _ rfl hcf, Oper.upon_enter, hax, hay]
    refine (hc rfl).mono fun e w' hh => ?_
    obtain ⟨rfl, rfl⟩ := hh
    refine hK _ _ ?_
    refine wpList_step fun K hK => ?_
    rw [if_pos (hw6 _ _ _)]
    refine wp_value_of _ (run_pickB _ _ _ _ _ _ (hp _ _ _)) (hK _ _ ?_)
    rw [he]
    exact h _ _ _
theorem cfSame (w : World) (args : Array Value) : (callFunc 18 args).run Try.prog w = .ok (.enter 18 args) w := by
  kernel_rfl
end Go.Proofs.Ytloglpamnalmeaa

/- WireTakes, the walk: what any bytes are. -/
namespace Go.Proofs.Ytloglpamnalmeaa
open Go.RowKit
set_option linter.unusedVariables false
set_option linter.unusedSimpArgs false

theorem zPk_len : (packetC zero32 0 0 0 none 0 0).length = 36 := packetC_len _ _ _ _ _ _ _ zero32_len
set_option maxRecDepth 100000 in
theorem run_eV_eq (q : Bool) (w : World) : (binOp .eql 29 (eV q) .nilIface).run Try.prog w = .ok (.bool q) w := by
  cases q <;> kernel_rfl
set_option maxRecDepth 100000 in
theorem run_eV_ne (q : Bool) (w : World) : (binOp .neq 29 (eV q) .nilIface).run Try.prog w = .ok (.bool (!q)) w := by
  cases q <;> kernel_rfl
theorem run_eV_ge (q : Bool) (x : Operand) (w : World) : (eqGuard .eql 29 x (.const .nilIface) (eV q) .nilIface).run Try.prog w = .ok () w := by
  cases q
  · rfl
  · cases x <;> rfl
theorem run_eV_gn (q : Bool) (x : Operand) (w : World) : (eqGuard .neq 29 x (.const .nilIface) (eV q) .nilIface).run Try.prog w = .ok () w := by
  cases q
  · rfl
  · cases x <;> rfl
theorem infoErrZ : (Try.prog.info? 29).map (fun i => (i.zero, i.size, i.bytes)) = some (some .nilIface, 1, 16) := by kernel_rfl
theorem fill6 (q1 q2 q3 q4 q5 q6 : Bool) : Instr.fill (fun i => some (i * 1, 1)) ((Array.range (6 * 1)).map (Value.nilIface.cells[· % Value.nilIface.cells.size]!)) [(0, eV q1), (1, eV q2), (2, eV q3), (3, eV q4), (4, eV q5), (5, eV q6)] = some #[eV q1, eV q2, eV q3, eV q4, eV q5, eV q6] := by
  cases q1 <;> cases q2 <;> cases q3 <;> cases q4 <;> cases q5 <;> cases q6 <;> kernel_rfl
theorem wpList_build6 {P : Program} {ops : Array Oper} {rest : List Oper} {o : Oper} {a : Act} {w : World} {Q : Exit → Act → World → Prop} (hg : o.guard = none) (t e : TypeId) (x1 x2 x3 x4 x5 x6 : Operand) (ho : o.op = .buildSlice t 6 #[(0, x1), (1, x2), (2, x3), (3, x4), (4, x5), (5, x6)])
    (q1 q2 q3 q4 q5 q6 : Bool) (h1 : a.eval x1 = eV q1) (h2 : a.eval x2 = eV q2) (h3 : a.eval x3 = eV q3) (h4 : a.eval x4 = eV q4) (h5 : a.eval x5 = eV q5) (h6 : a.eval x6 = eV q6) (ie : TypeInfo)
    (hu : P.underlying t = some (.slice e)) (hie : P.info? e = some ie) (hz : ie.zero = some .nilIface) (hs : ie.size = 1)
    (h : wpList P ops Q rest (a.put o.dst (.slice (some ⟨w.heap.size, 0, none⟩) 6 6)) (w.alloc (.cells #[eV q1, eV q2, eV q3, eV q4, eV q5, eV q6] e))) : wpList P ops Q (o :: rest) a w := by
  refine wpList_buildSlice hg t e 6 _ ho _ ie .nilIface hu hie hz (by rw [hs]; omega) (by rw [hs]; omega) ?_ h
  rw [hs]
  have e1 : (#[(0, x1), (1, x2), (2, x3), (3, x4), (4, x5), (5, x6)].map fun (i, x) => (i, a.eval x)).toList = [(0, eV q1), (1, eV q2), (2, eV q3), (3, eV q4), (4, eV q5), (5, eV q6)] := by simp [h1, h2, h3, h4, h5, h6]
  rw [e1]
  exact fill6 q1 q2 q3 q4 q5 q6
theorem eV_one (q : Bool) : (eV q).oneCell' = true := by cases q <;> rfl
set_option maxRecDepth 100000 in
set_option maxHeartbeats 20000000 in
theorem wireTakes_walk (A : Option Addr) (n c : Nat) (bs : List (BitVec 8)) {W : World} (hr : Rd b8 W W.heap.size A bs) (hn : bs.length = n) (hnc : n ≤ c) (hmc : c ≤ maxLen) :
    Calls Try.prog 11 #[.slice A n c] W fun e w' => e = .returned (.bool true) ∧ Below W.heap.size W w' := by
  have HR := Lib.hid hr
  have HN := Lib.hid hn
  clear hr hn
  by_cases hbig : 20000 < n
  · have hb' : (n : Int) > 20000 := by omega
    go_enter Try.func11, Try.ntmps11
    go_wp2_with fail
    refine (alive09_any _).mono ?_
    rintro e w1 ⟨rfl, hb1⟩
    have HB1 := Lib.hid hb1
    clear hb1
    go_wp2_with fail
    go_ret
    exact ⟨rfl, HB1.out⟩
  have hb' : decide ((n : Int) > 20000) = false := by simp; omega
  have hy : n ≤ 1000000 := by omega
  obtain ⟨q1, hq1⟩ : ∃ q, q = goodT bs := ⟨_, rfl⟩
  have GT := Lib.hid hq1
  clear hq1
  obtain ⟨q2, hq2⟩ : ∃ q, q = goodP bs := ⟨_, rfl⟩
  have GP := Lib.hid hq2
  clear hq2
  obtain ⟨q3, hq3⟩ : ∃ q, q = goodC bs := ⟨_, rfl⟩
  have GC := Lib.hid hq3
  clear hq3
  obtain ⟨q4, hq4⟩ : ∃ q, q = goodI bs := ⟨_, rfl⟩
  have GI := Lib.hid hq4
  clear hq4
  obtain ⟨q5, hq5⟩ : ∃ q, q = goodW bs := ⟨_, rfl⟩
  have GW := Lib.hid hq5
  clear hq5
  obtain ⟨q6, hq6⟩ : ∃ q, q = goodPk bs := ⟨_, rfl⟩
  have GK := Lib.hid hq6
  clear hq6
  have hEqT := fun w => run_eV_eq q1 w
  have hGdT := fun x w => run_eV_ge q1 x w
  have hEqP := fun w => run_eV_eq q2 w
  have hGdP := fun x w => run_eV_ge q2 x w
  have hEqC := fun w => run_eV_eq q3 w
  have hGdC := fun x w => run_eV_ge q3 x w
  have hEqI := fun w => run_eV_eq q4 w
  have hGdI := fun x w => run_eV_ge q4 x w
  have hEqW := fun w => run_eV_eq q5 w
  have hGdW := fun x w => run_eV_ge q5 x w
  have hEqK := fun w => run_eV_eq q6 w
  have hGdK := fun x w => run_eV_ge q6 x w
  go_enter Try.func11, Try.ntmps11
  go_wp2_with fail
  refine (alive09_any _).mono ?_
  rintro e w1 ⟨rfl, hb1⟩
  have HB1 := Lib.hid hb1
  have hz1 := hb1.size
  clear hb1
  go_wp2_with fail
  refine (copy_any c ((HR.out.below HB1.out).more hz1) (Nat.le_refl _) HN.out (by omega)).mono ?_
  rintro e w2 ⟨v2, rfl, hcp, hb⟩
  obtain ⟨gc, cc, rfl, -, -, hcc, -⟩ := hcp.shape' HN.out
  have HC2 := Lib.hid hcp
  have HB2 := Lib.hid (HB1.out.trans (hb.mono (by omega)))
  have hz2 := Nat.le_trans hz1 hb.size
  clear hcp hb HB1 hz1
  go_wp2_with fail
  have hu := utree_any (c := cc) HC2.out.own.rd (Nat.le_refl _) HN.out (by omega) hy
  rw [← GT.out] at hu
  refine hu.mono ?_
  clear hu
  rintro e w3 ⟨A3, n3, c3, rfl, hb, hn3, hpb⟩
  have HN3 := Lib.hid hn3
  clear hn3
  have HC3 := Lib.hid (HC2.out.below hb (Nat.le_refl _))
  have HB3 := Lib.hid (HB2.out.trans (hb.mono hz2))
  have hz3 := Nat.le_trans hz2 hb.size
  clear hb HC2 HB2 hz2
  have HPT3 := Lib.hid hpb
  clear hpb
  go_wp2_with fail
  have hu := uprop_any (c := cc) HC3.out.own.rd (Nat.le_refl _) HN.out (by omega) hy
  rw [← GP.out] at hu
  refine hu.mono ?_
  clear hu
  rintro e w4 ⟨csP, rfl, hb, hl, ho, hpb⟩
  have HLP := Lib.hid hl
  have HOP := Lib.hid ho
  clear hl ho
  have HC4 := Lib.hid (HC3.out.below hb (Nat.le_refl _))
  have HB4 := Lib.hid (HB3.out.trans (hb.mono hz3))
  have HPT4 := Lib.hid (HPT3.out.below hb)
  have hz4 := Nat.le_trans hz3 hb.size
  clear hb HC3 HB3 HPT3 hz3
  have HPP4 := Lib.hid hpb
  clear hpb
  go_wp2_with (refine wpList_store_blk rfl 71 _ _ rfl w4.heap.size rfl csP rfl _ _ (Blk.new w4 71 zPropL) (by rw [zPropL_len, HLP.out]) (by rw [HLP.out]; exact infoProp) HOP.out ?_; intro w5 hp hg; have HXP5 := Lib.hid hp; have hb := below_box hg; clear hp hg)
  have HC5 := Lib.hid (HC4.out.below hb (Nat.le_refl _))
  have HB5 := Lib.hid (HB4.out.trans (hb.mono hz4))
  have HPT5 := Lib.hid (HPT4.out.below hb)
  have HPP5 := Lib.hid (HPP4.out.below hb)
  have hz5 := Nat.le_trans hz4 hb.size
  clear hb HC4 HB4 HPT4 HPP4 hz4
  obtain ⟨gP, hgP⟩ : ∃ g, g = w4.heap.size := ⟨_, rfl⟩
  rw [← hgP] at HXP5 ⊢
  clear hgP
  have hu := ucomm_any (c := cc) HC5.out.own.rd (Nat.le_refl _) HN.out (by omega) hy
  rw [← GC.out] at hu
  refine hu.mono ?_
  clear hu
  rintro e w6 ⟨csC, rfl, hb, hl, ho, hpb⟩
  have HLC := Lib.hid hl
  have HOC := Lib.hid ho
  clear hl ho
  have HC6 := Lib.hid (HC5.out.below hb (Nat.le_refl _))
  have HB6 := Lib.hid (HB5.out.trans (hb.mono hz5))
  have HPT6 := Lib.hid (HPT5.out.below hb)
  have HPP6 := Lib.hid (HPP5.out.below hb)
  have HXP6 := Lib.hid (HXP5.out.below hb HXP5.out.lt)
  have hz6 := Nat.le_trans hz5 hb.size
  clear hb HC5 HB5 HPT5 HPP5 HXP5 hz5
  have HPC6 := Lib.hid hpb
  clear hpb
  go_wp2_with (refine wpList_store_blk rfl 82 _ _ rfl w6.heap.size rfl csC rfl _ _ (Blk.new w6 82 zerosCommit) (by rw [zerosCommit_len, HLC.out]) (by rw [HLC.out]; exact infoCommit) HOC.out ?_; intro w7 hp hg; have HXC7 := Lib.hid hp; have hb := below_box hg; clear hp hg)
  have HC7 := Lib.hid (HC6.out.below hb (Nat.le_refl _))
  have HB7 := Lib.hid (HB6.out.trans (hb.mono hz6))
  have HPT7 := Lib.hid (HPT6.out.below hb)
  have HPP7 := Lib.hid (HPP6.out.below hb)
  have HXP7 := Lib.hid (HXP6.out.below hb HXP6.out.lt)
  have HPC7 := Lib.hid (HPC6.out.below hb)
  have hz7 := Nat.le_trans hz6 hb.size
  clear hb HC6 HB6 HPT6 HPP6 HXP6 HPC6 hz6
  obtain ⟨gC, hgC⟩ : ∃ g, g = w6.heap.size := ⟨_, rfl⟩
  rw [← hgC] at HXC7 ⊢
  clear hgC
  have hu := uinfo_any (c := cc) HC7.out.own.rd (Nat.le_refl _) HN.out (by omega) hy
  rw [← GI.out] at hu
  refine hu.mono ?_
  clear hu
  rintro e w8 ⟨csI, AI, nI, cI', rfl, hb, hl, ho, h33, hnI, hpb⟩
  have HLI := Lib.hid hl
  have HOI := Lib.hid ho
  have H33 := Lib.hid h33
  have HNI := Lib.hid hnI
  clear hl ho h33 hnI
  have HC8 := Lib.hid (HC7.out.below hb (Nat.le_refl _))
  have HB8 := Lib.hid (HB7.out.trans (hb.mono hz7))
  have HPT8 := Lib.hid (HPT7.out.below hb)
  have HPP8 := Lib.hid (HPP7.out.below hb)
  have HXP8 := Lib.hid (HXP7.out.below hb HXP7.out.lt)
  have HPC8 := Lib.hid (HPC7.out.below hb)
  have HXC8 := Lib.hid (HXC7.out.below hb HXC7.out.lt)
  have hz8 := Nat.le_trans hz7 hb.size
  clear hb HC7 HB7 HPT7 HPP7 HXP7 HPC7 HXC7 hz7
  have HPI8 := Lib.hid hpb
  clear hpb
  go_wp2_with (refine wpList_store_blk rfl 64 _ _ rfl w8.heap.size rfl csI rfl _ _ (Blk.new w8 64 zerosInfo) (by rw [zerosInfo_len, HLI.out]) (by rw [HLI.out]; exact infoInfo) HOI.out ?_; intro w9 hp hg; have HXI9 := Lib.hid hp; have hb := below_box hg; clear hp hg)
  have HC9 := Lib.hid (HC8.out.below hb (Nat.le_refl _))
  have HB9 := Lib.hid (HB8.out.trans (hb.mono hz8))
  have HPT9 := Lib.hid (HPT8.out.below hb)
  have HPP9 := Lib.hid (HPP8.out.below hb)
  have HXP9 := Lib.hid (HXP8.out.below hb HXP8.out.lt)
  have HPC9 := Lib.hid (HPC8.out.below hb)
  have HXC9 := Lib.hid (HXC8.out.below hb HXC8.out.lt)
  have HPI9 := Lib.hid (HPI8.out.below hb)
  have hz9 := Nat.le_trans hz8 hb.size
  clear hb HC8 HB8 HPT8 HPP8 HXP8 HPC8 HXC8 HPI8 hz8
  obtain ⟨gI, hgI⟩ : ∃ g, g = w8.heap.size := ⟨_, rfl⟩
  rw [← hgI] at HXI9 ⊢
  clear hgI
  have hu := uwel_any (c := cc) HC9.out.own.rd (Nat.le_refl _) HN.out (by omega) hy
  rw [← GW.out] at hu
  refine hu.mono ?_
  clear hu
  rintro e w10 ⟨csW, rfl, hb, hl, ho, hpb⟩
  have HLW := Lib.hid hl
  have HOW := Lib.hid ho
  clear hl ho
  have HC10 := Lib.hid (HC9.out.below hb (Nat.le_refl _))
  have HB10 := Lib.hid (HB9.out.trans (hb.mono hz9))
  have HPT10 := Lib.hid (HPT9.out.below hb)
  have HPP10 := Lib.hid (HPP9.out.below hb)
  have HXP10 := Lib.hid (HXP9.out.below hb HXP9.out.lt)
  have HPC10 := Lib.hid (HPC9.out.below hb)
  have HXC10 := Lib.hid (HXC9.out.below hb HXC9.out.lt)
  have HPI10 := Lib.hid (HPI9.out.below hb)
  have HXI10 := Lib.hid (HXI9.out.below hb HXI9.out.lt)
  have hz10 := Nat.le_trans hz9 hb.size
  clear hb HC9 HB9 HPT9 HPP9 HXP9 HPC9 HXC9 HPI9 HXI9 hz9
  have HPW10 := Lib.hid hpb
  clear hpb
  go_wp2_with (refine wpList_store_blk rfl 41 _ _ rfl w10.heap.size rfl csW rfl _ _ (Blk.new w10 41 zerosWelcome) (by rw [zerosWelcome_len, HLW.out]) (by rw [HLW.out]; exact infoWelcome) HOW.out ?_; intro w11 hp hg; have HXW11 := Lib.hid hp; have hb := below_box hg; clear hp hg)
  have HC11 := Lib.hid (HC10.out.below hb (Nat.le_refl _))
  have HB11 := Lib.hid (HB10.out.trans (hb.mono hz10))
  have HPT11 := Lib.hid (HPT10.out.below hb)
  have HPP11 := Lib.hid (HPP10.out.below hb)
  have HXP11 := Lib.hid (HXP10.out.below hb HXP10.out.lt)
  have HPC11 := Lib.hid (HPC10.out.below hb)
  have HXC11 := Lib.hid (HXC10.out.below hb HXC10.out.lt)
  have HPI11 := Lib.hid (HPI10.out.below hb)
  have HXI11 := Lib.hid (HXI10.out.below hb HXI10.out.lt)
  have HPW11 := Lib.hid (HPW10.out.below hb)
  have hz11 := Nat.le_trans hz10 hb.size
  clear hb HC10 HB10 HPT10 HPP10 HXP10 HPC10 HXC10 HPI10 HXI10 HPW10 hz10
  obtain ⟨gW, hgW⟩ : ∃ g, g = w10.heap.size := ⟨_, rfl⟩
  rw [← hgW] at HXW11 ⊢
  clear hgW
  have hu := upk_any (c := cc) HC11.out.own.rd (Nat.le_refl _) HN.out (by omega) hy
  rw [← GK.out] at hu
  refine hu.mono ?_
  clear hu
  rintro e w12 ⟨csK, rfl, hb, hl, ho, hpb⟩
  have HLK := Lib.hid hl
  have HOK := Lib.hid ho
  clear hl ho
  have HC12 := Lib.hid (HC11.out.below hb (Nat.le_refl _))
  have HB12 := Lib.hid (HB11.out.trans (hb.mono hz11))
  have HPT12 := Lib.hid (HPT11.out.below hb)
  have HPP12 := Lib.hid (HPP11.out.below hb)
  have HXP12 := Lib.hid (HXP11.out.below hb HXP11.out.lt)
  have HPC12 := Lib.hid (HPC11.out.below hb)
  have HXC12 := Lib.hid (HXC11.out.below hb HXC11.out.lt)
  have HPI12 := Lib.hid (HPI11.out.below hb)
  have HXI12 := Lib.hid (HXI11.out.below hb HXI11.out.lt)
  have HPW12 := Lib.hid (HPW11.out.below hb)
  have HXW12 := Lib.hid (HXW11.out.below hb HXW11.out.lt)
  have hz12 := Nat.le_trans hz11 hb.size
  clear hb HC11 HB11 HPT11 HPP11 HXP11 HPC11 HXC11 HPI11 HXI11 HPW11 HXW11 hz11
  have HPK12 := Lib.hid hpb
  clear hpb
  go_wp2_with (refine wpList_store_blk rfl 26 _ _ rfl w12.heap.size rfl csK rfl _ _ (Blk.new w12 26 (packetC zero32 0 0 0 none 0 0)) (by rw [zPk_len, HLK.out]) (by rw [HLK.out]; exact infoPacket) HOK.out ?_; intro w13 hp hg; have HXK13 := Lib.hid hp; have hb := below_box hg; clear hp hg)
  have HC13 := Lib.hid (HC12.out.below hb (Nat.le_refl _))
  have HB13 := Lib.hid (HB12.out.trans (hb.mono hz12))
  have HPT13 := Lib.hid (HPT12.out.below hb)
  have HPP13 := Lib.hid (HPP12.out.below hb)
  have HXP13 := Lib.hid (HXP12.out.below hb HXP12.out.lt)
  have HPC13 := Lib.hid (HPC12.out.below hb)
  have HXC13 := Lib.hid (HXC12.out.below hb HXC12.out.lt)
  have HPI13 := Lib.hid (HPI12.out.below hb)
  have HXI13 := Lib.hid (HXI12.out.below hb HXI12.out.lt)
  have HPW13 := Lib.hid (HPW12.out.below hb)
  have HXW13 := Lib.hid (HXW12.out.below hb HXW12.out.lt)
  have HPK13 := Lib.hid (HPK12.out.below hb)
  have hz13 := Nat.le_trans hz12 hb.size
  clear hb HC12 HB12 HPT12 HPP12 HXP12 HPC12 HXC12 HPI12 HXI12 HPW12 HXW12 HPK12 hz12
  obtain ⟨gK, hgK⟩ : ∃ g, g = w12.heap.size := ⟨_, rfl⟩
  rw [← hgK] at HXK13 ⊢
  clear hgK
  have hu := rtakeTree_any (c := c) (HR.out.below HB13.out) hz13 HN.out hnc hy
  rw [← GT.out] at hu
  refine hu.mono ?_
  clear hu
  rintro e w14 ⟨hb, vT, rfl⟩
  have HC14 := Lib.hid (HC13.out.below hb (Nat.le_refl _))
  have HB14 := Lib.hid (HB13.out.trans (hb.mono hz13))
  have HPT14 := Lib.hid (HPT13.out.below hb)
  have HPP14 := Lib.hid (HPP13.out.below hb)
  have HXP14 := Lib.hid (HXP13.out.below hb HXP13.out.lt)
  have HPC14 := Lib.hid (HPC13.out.below hb)
  have HXC14 := Lib.hid (HXC13.out.below hb HXC13.out.lt)
  have HPI14 := Lib.hid (HPI13.out.below hb)
  have HXI14 := Lib.hid (HXI13.out.below hb HXI13.out.lt)
  have HPW14 := Lib.hid (HPW13.out.below hb)
  have HXW14 := Lib.hid (HXW13.out.below hb HXW13.out.lt)
  have HPK14 := Lib.hid (HPK13.out.below hb)
  have HXK14 := Lib.hid (HXK13.out.below hb HXK13.out.lt)
  have hz14 := Nat.le_trans hz13 hb.size
  clear hb HC13 HB13 HPT13 HPP13 HXP13 HPC13 HXC13 HPI13 HXI13 HPW13 HXW13 HPK13 HXK13 hz13
  go_wp2_with fail
  have hu := rtakeProposal_any (c := c) (HR.out.below HB14.out) hz14 HN.out hnc hy
  rw [← GP.out] at hu
  refine hu.mono ?_
  clear hu
  rintro e w15 ⟨hb, dsP, rfl, hl, ho⟩
  have KLP := Lib.hid hl
  have KOP := Lib.hid ho
  clear hl ho
  have HC15 := Lib.hid (HC14.out.below hb (Nat.le_refl _))
  have HB15 := Lib.hid (HB14.out.trans (hb.mono hz14))
  have HPT15 := Lib.hid (HPT14.out.below hb)
  have HPP15 := Lib.hid (HPP14.out.below hb)
  have HXP15 := Lib.hid (HXP14.out.below hb HXP14.out.lt)
  have HPC15 := Lib.hid (HPC14.out.below hb)
  have HXC15 := Lib.hid (HXC14.out.below hb HXC14.out.lt)
  have HPI15 := Lib.hid (HPI14.out.below hb)
  have HXI15 := Lib.hid (HXI14.out.below hb HXI14.out.lt)
  have HPW15 := Lib.hid (HPW14.out.below hb)
  have HXW15 := Lib.hid (HXW14.out.below hb HXW14.out.lt)
  have HPK15 := Lib.hid (HPK14.out.below hb)
  have HXK15 := Lib.hid (HXK14.out.below hb HXK14.out.lt)
  have hz15 := Nat.le_trans hz14 hb.size
  clear hb HC14 HB14 HPT14 HPP14 HXP14 HPC14 HXC14 HPI14 HXI14 HPW14 HXW14 HPK14 HXK14 hz14
  go_wp2_with (refine wpList_store_blk rfl 71 _ _ rfl w15.heap.size rfl dsP rfl _ _ (Blk.new w15 71 zPropL) (by rw [zPropL_len, KLP.out]) (by rw [KLP.out]; exact infoProp) KOP.out ?_; intro w16 hp hg; have hb := below_box hg; clear hp hg)
  have HC16 := Lib.hid (HC15.out.below hb (Nat.le_refl _))
  have HB16 := Lib.hid (HB15.out.trans (hb.mono hz15))
  have HPT16 := Lib.hid (HPT15.out.below hb)
  have HPP16 := Lib.hid (HPP15.out.below hb)
  have HXP16 := Lib.hid (HXP15.out.below hb HXP15.out.lt)
  have HPC16 := Lib.hid (HPC15.out.below hb)
  have HXC16 := Lib.hid (HXC15.out.below hb HXC15.out.lt)
  have HPI16 := Lib.hid (HPI15.out.below hb)
  have HXI16 := Lib.hid (HXI15.out.below hb HXI15.out.lt)
  have HPW16 := Lib.hid (HPW15.out.below hb)
  have HXW16 := Lib.hid (HXW15.out.below hb HXW15.out.lt)
  have HPK16 := Lib.hid (HPK15.out.below hb)
  have HXK16 := Lib.hid (HXK15.out.below hb HXK15.out.lt)
  have hz16 := Nat.le_trans hz15 hb.size
  clear hb HC15 HB15 HPT15 HPP15 HXP15 HPC15 HXC15 HPI15 HXI15 HPW15 HXW15 HPK15 HXK15 hz15
  have hu := rtakeCommit_any (c := c) (HR.out.below HB16.out) hz16 HN.out hnc hy
  rw [← GC.out] at hu
  refine hu.mono ?_
  clear hu
  rintro e w17 ⟨hb, dsC, rfl, hl, ho⟩
  have KLC := Lib.hid hl
  have KOC := Lib.hid ho
  clear hl ho
  have HC17 := Lib.hid (HC16.out.below hb (Nat.le_refl _))
  have HB17 := Lib.hid (HB16.out.trans (hb.mono hz16))
  have HPT17 := Lib.hid (HPT16.out.below hb)
  have HPP17 := Lib.hid (HPP16.out.below hb)
  have HXP17 := Lib.hid (HXP16.out.below hb HXP16.out.lt)
  have HPC17 := Lib.hid (HPC16.out.below hb)
  have HXC17 := Lib.hid (HXC16.out.below hb HXC16.out.lt)
  have HPI17 := Lib.hid (HPI16.out.below hb)
  have HXI17 := Lib.hid (HXI16.out.below hb HXI16.out.lt)
  have HPW17 := Lib.hid (HPW16.out.below hb)
  have HXW17 := Lib.hid (HXW16.out.below hb HXW16.out.lt)
  have HPK17 := Lib.hid (HPK16.out.below hb)
  have HXK17 := Lib.hid (HXK16.out.below hb HXK16.out.lt)
  have hz17 := Nat.le_trans hz16 hb.size
  clear hb HC16 HB16 HPT16 HPP16 HXP16 HPC16 HXC16 HPI16 HXI16 HPW16 HXW16 HPK16 HXK16 hz16
  go_wp2_with (refine wpList_store_blk rfl 82 _ _ rfl w17.heap.size rfl dsC rfl _ _ (Blk.new w17 82 zerosCommit) (by rw [zerosCommit_len, KLC.out]) (by rw [KLC.out]; exact infoCommit) KOC.out ?_; intro w18 hp hg; have hb := below_box hg; clear hp hg)
  have HC18 := Lib.hid (HC17.out.below hb (Nat.le_refl _))
  have HB18 := Lib.hid (HB17.out.trans (hb.mono hz17))
  have HPT18 := Lib.hid (HPT17.out.below hb)
  have HPP18 := Lib.hid (HPP17.out.below hb)
  have HXP18 := Lib.hid (HXP17.out.below hb HXP17.out.lt)
  have HPC18 := Lib.hid (HPC17.out.below hb)
  have HXC18 := Lib.hid (HXC17.out.below hb HXC17.out.lt)
  have HPI18 := Lib.hid (HPI17.out.below hb)
  have HXI18 := Lib.hid (HXI17.out.below hb HXI17.out.lt)
  have HPW18 := Lib.hid (HPW17.out.below hb)
  have HXW18 := Lib.hid (HXW17.out.below hb HXW17.out.lt)
  have HPK18 := Lib.hid (HPK17.out.below hb)
  have HXK18 := Lib.hid (HXK17.out.below hb HXK17.out.lt)
  have hz18 := Nat.le_trans hz17 hb.size
  clear hb HC17 HB17 HPT17 HPP17 HXP17 HPC17 HXC17 HPI17 HXI17 HPW17 HXW17 HPK17 HXK17 hz17
  have hu := rtakeInfo_any (c := c) (HR.out.below HB18.out) hz18 HN.out hnc hy
  rw [← GI.out] at hu
  refine hu.mono ?_
  clear hu
  rintro e w19 ⟨hb, dsI, rfl, hl, ho⟩
  have KLI := Lib.hid hl
  have KOI := Lib.hid ho
  clear hl ho
  have HC19 := Lib.hid (HC18.out.below hb (Nat.le_refl _))
  have HB19 := Lib.hid (HB18.out.trans (hb.mono hz18))
  have HPT19 := Lib.hid (HPT18.out.below hb)
  have HPP19 := Lib.hid (HPP18.out.below hb)
  have HXP19 := Lib.hid (HXP18.out.below hb HXP18.out.lt)
  have HPC19 := Lib.hid (HPC18.out.below hb)
  have HXC19 := Lib.hid (HXC18.out.below hb HXC18.out.lt)
  have HPI19 := Lib.hid (HPI18.out.below hb)
  have HXI19 := Lib.hid (HXI18.out.below hb HXI18.out.lt)
  have HPW19 := Lib.hid (HPW18.out.below hb)
  have HXW19 := Lib.hid (HXW18.out.below hb HXW18.out.lt)
  have HPK19 := Lib.hid (HPK18.out.below hb)
  have HXK19 := Lib.hid (HXK18.out.below hb HXK18.out.lt)
  have hz19 := Nat.le_trans hz18 hb.size
  clear hb HC18 HB18 HPT18 HPP18 HXP18 HPC18 HXC18 HPI18 HXI18 HPW18 HXW18 HPK18 HXK18 hz18
  go_wp2_with (refine wpList_store_blk rfl 64 _ _ rfl w19.heap.size rfl dsI rfl _ _ (Blk.new w19 64 zerosInfo) (by rw [zerosInfo_len, KLI.out]) (by rw [KLI.out]; exact infoInfo) KOI.out ?_; intro w20 hp hg; have hb := below_box hg; clear hp hg)
  have HC20 := Lib.hid (HC19.out.below hb (Nat.le_refl _))
  have HB20 := Lib.hid (HB19.out.trans (hb.mono hz19))
  have HPT20 := Lib.hid (HPT19.out.below hb)
  have HPP20 := Lib.hid (HPP19.out.below hb)
  have HXP20 := Lib.hid (HXP19.out.below hb HXP19.out.lt)
  have HPC20 := Lib.hid (HPC19.out.below hb)
  have HXC20 := Lib.hid (HXC19.out.below hb HXC19.out.lt)
  have HPI20 := Lib.hid (HPI19.out.below hb)
  have HXI20 := Lib.hid (HXI19.out.below hb HXI19.out.lt)
  have HPW20 := Lib.hid (HPW19.out.below hb)
  have HXW20 := Lib.hid (HXW19.out.below hb HXW19.out.lt)
  have HPK20 := Lib.hid (HPK19.out.below hb)
  have HXK20 := Lib.hid (HXK19.out.below hb HXK19.out.lt)
  have hz20 := Nat.le_trans hz19 hb.size
  clear hb HC19 HB19 HPT19 HPP19 HXP19 HPC19 HXC19 HPI19 HXI19 HPW19 HXW19 HPK19 HXK19 hz19
  have hu := rtakeWelcome_any (c := c) (HR.out.below HB20.out) hz20 HN.out hnc hy
  rw [← GW.out] at hu
  refine hu.mono ?_
  clear hu
  rintro e w21 ⟨hb, dsW, rfl, hl, ho⟩
  have KLW := Lib.hid hl
  have KOW := Lib.hid ho
  clear hl ho
  have HC21 := Lib.hid (HC20.out.below hb (Nat.le_refl _))
  have HB21 := Lib.hid (HB20.out.trans (hb.mono hz20))
  have HPT21 := Lib.hid (HPT20.out.below hb)
  have HPP21 := Lib.hid (HPP20.out.below hb)
  have HXP21 := Lib.hid (HXP20.out.below hb HXP20.out.lt)
  have HPC21 := Lib.hid (HPC20.out.below hb)
  have HXC21 := Lib.hid (HXC20.out.below hb HXC20.out.lt)
  have HPI21 := Lib.hid (HPI20.out.below hb)
  have HXI21 := Lib.hid (HXI20.out.below hb HXI20.out.lt)
  have HPW21 := Lib.hid (HPW20.out.below hb)
  have HXW21 := Lib.hid (HXW20.out.below hb HXW20.out.lt)
  have HPK21 := Lib.hid (HPK20.out.below hb)
  have HXK21 := Lib.hid (HXK20.out.below hb HXK20.out.lt)
  have hz21 := Nat.le_trans hz20 hb.size
  clear hb HC20 HB20 HPT20 HPP20 HXP20 HPC20 HXC20 HPI20 HXI20 HPW20 HXW20 HPK20 HXK20 hz20
  go_wp2_with (refine wpList_store_blk rfl 41 _ _ rfl w21.heap.size rfl dsW rfl _ _ (Blk.new w21 41 zerosWelcome) (by rw [zerosWelcome_len, KLW.out]) (by rw [KLW.out]; exact infoWelcome) KOW.out ?_; intro w22 hp hg; have hb := below_box hg; clear hp hg)
  have HC22 := Lib.hid (HC21.out.below hb (Nat.le_refl _))
  have HB22 := Lib.hid (HB21.out.trans (hb.mono hz21))
  have HPT22 := Lib.hid (HPT21.out.below hb)
  have HPP22 := Lib.hid (HPP21.out.below hb)
  have HXP22 := Lib.hid (HXP21.out.below hb HXP21.out.lt)
  have HPC22 := Lib.hid (HPC21.out.below hb)
  have HXC22 := Lib.hid (HXC21.out.below hb HXC21.out.lt)
  have HPI22 := Lib.hid (HPI21.out.below hb)
  have HXI22 := Lib.hid (HXI21.out.below hb HXI21.out.lt)
  have HPW22 := Lib.hid (HPW21.out.below hb)
  have HXW22 := Lib.hid (HXW21.out.below hb HXW21.out.lt)
  have HPK22 := Lib.hid (HPK21.out.below hb)
  have HXK22 := Lib.hid (HXK21.out.below hb HXK21.out.lt)
  have hz22 := Nat.le_trans hz21 hb.size
  clear hb HC21 HB21 HPT21 HPP21 HXP21 HPC21 HXC21 HPI21 HXI21 HPW21 HXW21 HPK21 HXK21 hz21
  have hu := rtakePacket_any (c := c) (HR.out.below HB22.out) hz22 HN.out hnc hy
  rw [← GK.out] at hu
  refine hu.mono ?_
  clear hu
  rintro e w23 ⟨hb, dsK, rfl, hl, ho⟩
  have KLK := Lib.hid hl
  have KOK := Lib.hid ho
  clear hl ho
  have HC23 := Lib.hid (HC22.out.below hb (Nat.le_refl _))
  have HB23 := Lib.hid (HB22.out.trans (hb.mono hz22))
  have HPT23 := Lib.hid (HPT22.out.below hb)
  have HPP23 := Lib.hid (HPP22.out.below hb)
  have HXP23 := Lib.hid (HXP22.out.below hb HXP22.out.lt)
  have HPC23 := Lib.hid (HPC22.out.below hb)
  have HXC23 := Lib.hid (HXC22.out.below hb HXC22.out.lt)
  have HPI23 := Lib.hid (HPI22.out.below hb)
  have HXI23 := Lib.hid (HXI22.out.below hb HXI22.out.lt)
  have HPW23 := Lib.hid (HPW22.out.below hb)
  have HXW23 := Lib.hid (HXW22.out.below hb HXW22.out.lt)
  have HPK23 := Lib.hid (HPK22.out.below hb)
  have HXK23 := Lib.hid (HXK22.out.below hb HXK22.out.lt)
  have hz23 := Nat.le_trans hz22 hb.size
  clear hb HC22 HB22 HPT22 HPP22 HXP22 HPC22 HXC22 HPI22 HXI22 HPW22 HXW22 HPK22 HXK22 hz22
  go_wp2_with (refine wpList_store_blk rfl 26 _ _ rfl w23.heap.size rfl dsK rfl _ _ (Blk.new w23 26 (packetC zero32 0 0 0 none 0 0)) (by rw [zPk_len, KLK.out]) (by rw [KLK.out]; exact infoPacket) KOK.out ?_; intro w24 hp hg; have hb := below_box hg; clear hp hg)
  have HC24 := Lib.hid (HC23.out.below hb (Nat.le_refl _))
  have HB24 := Lib.hid (HB23.out.trans (hb.mono hz23))
  have HPT24 := Lib.hid (HPT23.out.below hb)
  have HPP24 := Lib.hid (HPP23.out.below hb)
  have HXP24 := Lib.hid (HXP23.out.below hb HXP23.out.lt)
  have HPC24 := Lib.hid (HPC23.out.below hb)
  have HXC24 := Lib.hid (HXC23.out.below hb HXC23.out.lt)
  have HPI24 := Lib.hid (HPI23.out.below hb)
  have HXI24 := Lib.hid (HXI23.out.below hb HXI23.out.lt)
  have HPW24 := Lib.hid (HPW23.out.below hb)
  have HXW24 := Lib.hid (HXW23.out.below hb HXW23.out.lt)
  have HPK24 := Lib.hid (HPK23.out.below hb)
  have HXK24 := Lib.hid (HXK23.out.below hb HXK23.out.lt)
  have hz24 := Nat.le_trans hz23 hb.size
  clear hb HC23 HB23 HPT23 HPP23 HXP23 HPC23 HXC23 HPI23 HXI23 HPW23 HXW23 HPK23 HXK23 hz23
  have HRd24 := Lib.hid ((HR.out.below HB24.out).more hz24)
  have HRow := Lib.hid (show Rd eV (w24.alloc (.cells #[eV q1, eV q2, eV q3, eV q4, eV q5, eV q6] 29)) (w24.heap.size + 1) (some ⟨w24.heap.size, 0, none⟩) [q1, q2, q3, q4, q5, q6] from Rd.new eV w24 29 [q1, q2, q3, q4, q5, q6])
  have hb : Below w24.heap.size w24 (w24.alloc (.cells #[eV q1, eV q2, eV q3, eV q4, eV q5, eV q6] 29)) := (Below.refl _ _).alloc (Nat.le_refl _) _
  have HB25 := Lib.hid (HB24.out.trans (hb.mono hz24))
  have HPT25 := Lib.hid (HPT24.out.below hb)
  have HPP25 := Lib.hid (HPP24.out.below hb)
  have HXP25 := Lib.hid (HXP24.out.below hb HXP24.out.lt)
  have HPC25 := Lib.hid (HPC24.out.below hb)
  have HXC25 := Lib.hid (HXC24.out.below hb HXC24.out.lt)
  have HPI25 := Lib.hid (HPI24.out.below hb)
  have HXI25 := Lib.hid (HXI24.out.below hb HXI24.out.lt)
  have HPW25 := Lib.hid (HPW24.out.below hb)
  have HXW25 := Lib.hid (HXW24.out.below hb HXW24.out.lt)
  have HPK25 := Lib.hid (HPK24.out.below hb)
  have HXK25 := Lib.hid (HXK24.out.below hb HXK24.out.lt)
  have hz25 := Nat.le_trans hz24 hb.size
  clear hb HB24 HPT24 HPP24 HXP24 HPC24 HXC24 HPI24 HXI24 HPW24 HXW24 HPK24 HXK24
  have hIs : ∀ w, Calls Try.prog 48 #[eV false, .int .i64 3] w fun e w' => e = .returned (.bool true) ∧ w = w' := fun w => is_any 3 3 w
  have HIs := Lib.hid hIs
  clear hIs
  obtain ⟨e0, he0, hez, hes, heb⟩ := info_parts infoErrZ
  go_wp2_with (first
    | (go_at_call 47; refine (kept_any c HC24.out HRd24.out HN.out rfl (by omega)).mono ?_; rintro e w' ⟨rfl, rfl⟩)
    | (refine wpList_build6 rfl 106 29 (.tmp 149) (.tmp 150) (.tmp 151) (.tmp 152) (.tmp 153) (.tmp 154) rfl q1 q2 q3 q4 q5 q6 rfl rfl rfl rfl rfl rfl e0 Try.underlying106 he0 hez hes ?_))
  generalize hWE : (w24.alloc (.cells #[eV q1, eV q2, eV q3, eV q4, eV q5, eV q6] 29)) = w25 at HRow HB25 HPT25 HPP25 HXP25 HPC25 HXC25 HPI25 HXI25 HPW25 HXW25 HPK25 HXK25 hz25 ⊢
  clear hWE HC24 HRd24 hz24
  obtain ⟨gE, hgE⟩ : ∃ g, g = w24.heap.size := ⟨_, rfl⟩
  rw [← hgE] at HRow ⊢
  clear hgE
  go_loop [157] (fun iv => ∃ k : Nat, k ≤ 6 ∧ iv = .int .i64 (k : Int)) (fun iv => 6 - (intOf iv).toNat)
  case atStart => exact ⟨0, by omega, rfl⟩
  case round =>
    obtain ⟨k, hk, rfl⟩ := hrel
    by_cases hk6 : k < 6
    · obtain ⟨b', off, e', -, hc⟩ := HRow.out.at_ (k := k) (by simpa using hk6)
      cases e'
      generalize ([q1, q2, q3, q4, q5, q6] : List Bool)[k]'(by simpa using hk6) = x at hc
      have hc' : w25.cell? ⟨gE, k, none⟩ = some (eV x) := by rw [Nat.zero_add] at hc; exact hc
      have hNe := fun w => run_eV_ne x w
      have hNg := fun y w => run_eV_gn x y w
      clear hc
      cases x with
      | true =>
        go_wp2_with fail
        go_round
        case rel => exact ⟨k + 1, by omega, by go_num⟩
        case measure => simp [intOf]; omega
      | false =>
        go_wp2_with (go_at_call 48; refine (HIs.out _).mono ?_; rintro e w' ⟨rfl, rfl⟩)
        go_round
        case rel => exact ⟨k + 1, by omega, by go_num⟩
        case measure => simp [intOf]; omega
    · obtain rfl : k = 6 := by omega
      clear HRow HIs
      have c33 := HXI25.out.cell 33 H33.out
      have HT3 := Lib.hid (show q1 = true ∨ n3 = 0 from by cases q1; exact .inr (HN3.out rfl); exact .inl rfl)
      have HTI := Lib.hid (show q4 = true ∨ nI = 0 from by cases q4; exact .inr (HNI.out rfl); exact .inl rfl)
      clear HN3 HNI hEqT hEqP hEqC hEqI hEqW hEqK hGdT hGdP hGdC hGdI hGdW hGdK
      cases q1 with
      | true =>
        cases q4 with
        | true =>
          go_wp2_with fail
          refine (HPT25.out w25 (Below.refl _ _)).mono ?_
          rintro e w26 ⟨uT, rT, XT, rfl, ho, hX, hb⟩
          obtain ⟨lT, hlT⟩ : ∃ l, XT.length = l := ⟨_, rfl⟩
          obtain ⟨BT, dT, rfl, -, -, -, -⟩ := ho.shape' hlT
          have HYT := Lib.hid hX
          have HLnT := Lib.hid hlT
          have HB26 := Lib.hid (HB25.out.trans (hb.mono hz25))
          have HPP26 := Lib.hid (HPP25.out.below hb)
          have HXP26 := Lib.hid (HXP25.out.below hb HXP25.out.lt)
          have HPC26 := Lib.hid (HPC25.out.below hb)
          have HXC26 := Lib.hid (HXC25.out.below hb HXC25.out.lt)
          have HPI26 := Lib.hid (HPI25.out.below hb)
          have HXI26 := Lib.hid (HXI25.out.below hb HXI25.out.lt)
          have HPW26 := Lib.hid (HPW25.out.below hb)
          have HXW26 := Lib.hid (HXW25.out.below hb HXW25.out.lt)
          have HPK26 := Lib.hid (HPK25.out.below hb)
          have HXK26 := Lib.hid (HXK25.out.below hb HXK25.out.lt)
          have HOT26 := Lib.hid ho
          have hz26 := Nat.le_trans hz25 hb.size
          clear hb ho hX hlT HB25 HPP25 HXP25 HPC25 HXC25 HPI25 HXI25 HPW25 HXW25 HPK25 HXK25 HPT25  hz25
          go_wp2_with (refine wpList_load_mid rfl 71 (.tmp 6) rfl gP 0 rfl csP _ (Blk.whole HXP26.out) Try.underlying71 rfl (by rw [HLP.out]; exact infoProp) ?_)
          refine (HPP26.out w26 (Below.refl _ _)).mono ?_
          rintro e w27 ⟨uP, rP, XP, rfl, ho, hX, hb⟩
          obtain ⟨lP, hlP⟩ : ∃ l, XP.length = l := ⟨_, rfl⟩
          obtain ⟨BP, dP, rfl, -, -, -, -⟩ := ho.shape' hlP
          have HYP := Lib.hid hX
          have HLnP := Lib.hid hlP
          have HB27 := Lib.hid (HB26.out.trans (hb.mono hz26))
          have HPC27 := Lib.hid (HPC26.out.below hb)
          have HXC27 := Lib.hid (HXC26.out.below hb HXC26.out.lt)
          have HPI27 := Lib.hid (HPI26.out.below hb)
          have HXI27 := Lib.hid (HXI26.out.below hb HXI26.out.lt)
          have HPW27 := Lib.hid (HPW26.out.below hb)
          have HXW27 := Lib.hid (HXW26.out.below hb HXW26.out.lt)
          have HPK27 := Lib.hid (HPK26.out.below hb)
          have HXK27 := Lib.hid (HXK26.out.below hb HXK26.out.lt)
          have HOT27 := Lib.hid (HOT26.out.below hb (Nat.le_refl _))
          have HOP27 := Lib.hid ho
          have hz27 := Nat.le_trans hz26 hb.size
          clear hb ho hX hlP HB26 HPC26 HXC26 HPI26 HXI26 HPW26 HXW26 HPK26 HXK26 HPP26 HXP26 HOT26 hz26
          go_wp2_with (refine wpList_load_mid rfl 82 (.tmp 8) rfl gC 0 rfl csC _ (Blk.whole HXC27.out) Try.underlying82 rfl (by rw [HLC.out]; exact infoCommit) ?_)
          refine (HPC27.out w27 (Below.refl _ _)).mono ?_
          rintro e w28 ⟨uC, rC, XC, rfl, ho, hX, hb⟩
          obtain ⟨lC, hlC⟩ : ∃ l, XC.length = l := ⟨_, rfl⟩
          obtain ⟨BC, dC, rfl, -, -, -, -⟩ := ho.shape' hlC
          have HYC := Lib.hid hX
          have HLnC := Lib.hid hlC
          have HB28 := Lib.hid (HB27.out.trans (hb.mono hz27))
          have HPI28 := Lib.hid (HPI27.out.below hb)
          have HXI28 := Lib.hid (HXI27.out.below hb HXI27.out.lt)
          have HPW28 := Lib.hid (HPW27.out.below hb)
          have HXW28 := Lib.hid (HXW27.out.below hb HXW27.out.lt)
          have HPK28 := Lib.hid (HPK27.out.below hb)
          have HXK28 := Lib.hid (HXK27.out.below hb HXK27.out.lt)
          have HOT28 := Lib.hid (HOT27.out.below hb (Nat.le_refl _))
          have HOP28 := Lib.hid (HOP27.out.below hb (Nat.le_refl _))
          have HOC28 := Lib.hid ho
          have hz28 := Nat.le_trans hz27 hb.size
          clear hb ho hX hlC HB27 HPI27 HXI27 HPW27 HXW27 HPK27 HXK27 HPC27 HXC27 HOT27 HOP27 hz27
          go_wp2_with (refine wpList_load_mid rfl 64 (.tmp 10) rfl gI 0 rfl csI _ (Blk.whole HXI28.out) Try.underlying64 rfl (by rw [HLI.out]; exact infoInfo) ?_)
          refine (HPI28.out w28 (Below.refl _ _)).mono ?_
          rintro e w29 ⟨uI, rI, XI, rfl, ho, hX, hb⟩
          obtain ⟨lI, hlI⟩ : ∃ l, XI.length = l := ⟨_, rfl⟩
          obtain ⟨BI, dI, rfl, -, -, -, -⟩ := ho.shape' hlI
          have HYI := Lib.hid hX
          have HLnI := Lib.hid hlI
          have HB29 := Lib.hid (HB28.out.trans (hb.mono hz28))
          have HPW29 := Lib.hid (HPW28.out.below hb)
          have HXW29 := Lib.hid (HXW28.out.below hb HXW28.out.lt)
          have HPK29 := Lib.hid (HPK28.out.below hb)
          have HXK29 := Lib.hid (HXK28.out.below hb HXK28.out.lt)
          have HOT29 := Lib.hid (HOT28.out.below hb (Nat.le_refl _))
          have HOP29 := Lib.hid (HOP28.out.below hb (Nat.le_refl _))
          have HOC29 := Lib.hid (HOC28.out.below hb (Nat.le_refl _))
          have HOI29 := Lib.hid ho
          have hz29 := Nat.le_trans hz28 hb.size
          clear hb ho hX hlI HB28 HPW28 HXW28 HPK28 HXK28 HPI28 HXI28 HOT28 HOP28 HOC28 hz28
          go_wp2_with (refine wpList_load_mid rfl 41 (.tmp 12) rfl gW 0 rfl csW _ (Blk.whole HXW29.out) Try.underlying41 rfl (by rw [HLW.out]; exact infoWelcome) ?_)
          refine (HPW29.out w29 (Below.refl _ _)).mono ?_
          rintro e w30 ⟨uW, rW, XW, rfl, ho, hX, hb⟩
          obtain ⟨lW, hlW⟩ : ∃ l, XW.length = l := ⟨_, rfl⟩
          obtain ⟨BW, dW, rfl, -, -, -, -⟩ := ho.shape' hlW
          have HYW := Lib.hid hX
          have HLnW := Lib.hid hlW
          have HB30 := Lib.hid (HB29.out.trans (hb.mono hz29))
          have HPK30 := Lib.hid (HPK29.out.below hb)
          have HXK30 := Lib.hid (HXK29.out.below hb HXK29.out.lt)
          have HOT30 := Lib.hid (HOT29.out.below hb (Nat.le_refl _))
          have HOP30 := Lib.hid (HOP29.out.below hb (Nat.le_refl _))
          have HOC30 := Lib.hid (HOC29.out.below hb (Nat.le_refl _))
          have HOI30 := Lib.hid (HOI29.out.below hb (Nat.le_refl _))
          have HOW30 := Lib.hid ho
          have hz30 := Nat.le_trans hz29 hb.size
          clear hb ho hX hlW HB29 HPK29 HXK29 HPW29 HXW29 HOT29 HOP29 HOC29 HOI29 hz29
          go_wp2_with (refine wpList_load_mid rfl 26 (.tmp 14) rfl gK 0 rfl csK _ (Blk.whole HXK30.out) Try.underlying26 rfl (by rw [HLK.out]; exact infoPacket) ?_)
          refine (HPK30.out w30 (Below.refl _ _)).mono ?_
          rintro e w31 ⟨uK, rK, XK, rfl, ho, hX, hb⟩
          obtain ⟨lK, hlK⟩ : ∃ l, XK.length = l := ⟨_, rfl⟩
          obtain ⟨BK, dK, rfl, -, -, -, -⟩ := ho.shape' hlK
          have HYK := Lib.hid hX
          have HLnK := Lib.hid hlK
          have HB31 := Lib.hid (HB30.out.trans (hb.mono hz30))
          have HOT31 := Lib.hid (HOT30.out.below hb (Nat.le_refl _))
          have HOP31 := Lib.hid (HOP30.out.below hb (Nat.le_refl _))
          have HOC31 := Lib.hid (HOC30.out.below hb (Nat.le_refl _))
          have HOI31 := Lib.hid (HOI30.out.below hb (Nat.le_refl _))
          have HOW31 := Lib.hid (HOW30.out.below hb (Nat.le_refl _))
          have HOK31 := Lib.hid ho
          have hz31 := Nat.le_trans hz30 hb.size
          clear hb ho hX hlK HB30 HPK30 HXK30 HOT30 HOP30 HOC30 HOI30 HOW30 hz30
          have HRs := Lib.hid (HR.out.below HB31.out)
          have HCT : Hid (IfT true (Calls Try.prog 18 #[.slice BT lT dT, .slice A n c] w31 fun e w' => e = .returned (.bool true) ∧ w31 = w')) := Lib.hid (fun hq => (same_any dT c HOT31.out.rd HRs.out HLnT.out HN.out).mono (by rintro e w' ⟨rfl, rfl⟩; rw [(by first | exact HYT.out hq | exact HYT.out trivial | exact HYT.out rfl : XT = bs), beq_self_eq_true]; exact ⟨rfl, rfl⟩))
          have HCP : Hid (IfT q2 (Calls Try.prog 18 #[.slice BP lP dP, .slice A n c] w31 fun e w' => e = .returned (.bool true) ∧ w31 = w')) := Lib.hid (fun hq => (same_any dP c HOP31.out.rd HRs.out HLnP.out HN.out).mono (by rintro e w' ⟨rfl, rfl⟩; rw [(by first | exact HYP.out hq | exact HYP.out trivial | exact HYP.out rfl : XP = bs), beq_self_eq_true]; exact ⟨rfl, rfl⟩))
          have HCC : Hid (IfT q3 (Calls Try.prog 18 #[.slice BC lC dC, .slice A n c] w31 fun e w' => e = .returned (.bool true) ∧ w31 = w')) := Lib.hid (fun hq => (same_any dC c HOC31.out.rd HRs.out HLnC.out HN.out).mono (by rintro e w' ⟨rfl, rfl⟩; rw [(by first | exact HYC.out hq | exact HYC.out trivial | exact HYC.out rfl : XC = bs), beq_self_eq_true]; exact ⟨rfl, rfl⟩))
          have HCI : Hid (IfT true (Calls Try.prog 18 #[.slice BI lI dI, .slice A n c] w31 fun e w' => e = .returned (.bool true) ∧ w31 = w')) := Lib.hid (fun hq => (same_any dI c HOI31.out.rd HRs.out HLnI.out HN.out).mono (by rintro e w' ⟨rfl, rfl⟩; rw [(by first | exact HYI.out hq | exact HYI.out trivial | exact HYI.out rfl : XI = bs), beq_self_eq_true]; exact ⟨rfl, rfl⟩))
          have HCW : Hid (IfT q5 (Calls Try.prog 18 #[.slice BW lW dW, .slice A n c] w31 fun e w' => e = .returned (.bool true) ∧ w31 = w')) := Lib.hid (fun hq => (same_any dW c HOW31.out.rd HRs.out HLnW.out HN.out).mono (by rintro e w' ⟨rfl, rfl⟩; rw [(by first | exact HYW.out hq | exact HYW.out trivial | exact HYW.out rfl : XW = bs), beq_self_eq_true]; exact ⟨rfl, rfl⟩))
          have HCK : Hid (IfT q6 (Calls Try.prog 18 #[.slice BK lK dK, .slice A n c] w31 fun e w' => e = .returned (.bool true) ∧ w31 = w')) := Lib.hid (fun hq => (same_any dK c HOK31.out.rd HRs.out HLnK.out HN.out).mono (by rintro e w' ⟨rfl, rfl⟩; rw [(by first | exact HYK.out hq | exact HYK.out trivial | exact HYK.out rfl : XK = bs), beq_self_eq_true]; exact ⟨rfl, rfl⟩))
          go_upto_region 34 with fail
          refine wp_region_lit ?_
          refine s_move (.bool true) (by kernel_rfl) (by kernel_rfl) ?_
          simp only [Act.put, List.setIfInBounds_toArray, List.set_cons_succ, List.set_cons_zero]
          refine s_not true (by kernel_rfl) (by kernel_rfl) ?_
          simp only [Act.put, List.setIfInBounds_toArray, List.set_cons_succ, List.set_cons_zero]
          refine s_move (.bool (!true)) (by kernel_rfl) (by kernel_rfl) ?_
          simp only [Act.put, List.setIfInBounds_toArray, List.set_cons_succ, List.set_cons_zero]
          refine wpList_or_call _ _ _ HCT.out (cfSame _) (by kernel_rfl) (fun v => by kernel_rfl) (fun v u => by kernel_rfl) (fun v u z => by kernel_rfl) (by kernel_rfl) (fun v => by kernel_rfl) (fun u => by kernel_rfl) (fun v => by kernel_rfl) (fun v u z => by kernel_rfl) (fun v u z => by kernel_rfl) ?_
          intro vT1 vT2 vT3
          simp only [Act.put, List.setIfInBounds_toArray, List.set_cons_succ, List.set_cons_zero]
          refine s_move (.bool true) (by kernel_rfl) (by kernel_rfl) ?_
          simp only [Act.put, List.setIfInBounds_toArray, List.set_cons_succ, List.set_cons_zero]
          refine s_move (.bool q2) (by kernel_rfl) (by kernel_rfl) ?_
          simp only [Act.put, List.setIfInBounds_toArray, List.set_cons_succ, List.set_cons_zero]
          refine s_not q2 (by kernel_rfl) (by kernel_rfl) ?_
          simp only [Act.put, List.setIfInBounds_toArray, List.set_cons_succ, List.set_cons_zero]
          refine s_move (.bool (!q2)) (by kernel_rfl) (by kernel_rfl) ?_
          simp only [Act.put, List.setIfInBounds_toArray, List.set_cons_succ, List.set_cons_zero]
          refine wpList_or_call _ _ _ HCP.out (cfSame _) (by kernel_rfl) (fun v => by kernel_rfl) (fun v u => by kernel_rfl) (fun v u z => by kernel_rfl) (by kernel_rfl) (fun v => by kernel_rfl) (fun u => by kernel_rfl) (fun v => by kernel_rfl) (fun v u z => by kernel_rfl) (fun v u z => by kernel_rfl) ?_
          intro vP1 vP2 vP3
          simp only [Act.put, List.setIfInBounds_toArray, List.set_cons_succ, List.set_cons_zero]
          refine s_pick (.bool true) (by kernel_rfl) (by kernel_rfl) (by kernel_rfl) ?_
          simp only [Act.put, List.setIfInBounds_toArray, List.set_cons_succ, List.set_cons_zero]
          refine s_move (.bool true) (by kernel_rfl) (by kernel_rfl) ?_
          simp only [Act.put, List.setIfInBounds_toArray, List.set_cons_succ, List.set_cons_zero]
          refine s_move (.bool q3) (by kernel_rfl) (by kernel_rfl) ?_
          simp only [Act.put, List.setIfInBounds_toArray, List.set_cons_succ, List.set_cons_zero]
          refine s_not q3 (by kernel_rfl) (by kernel_rfl) ?_
          simp only [Act.put, List.setIfInBounds_toArray, List.set_cons_succ, List.set_cons_zero]
          refine s_move (.bool (!q3)) (by kernel_rfl) (by kernel_rfl) ?_
          simp only [Act.put, List.setIfInBounds_toArray, List.set_cons_succ, List.set_cons_zero]
          refine wpList_or_call _ _ _ HCC.out (cfSame _) (by kernel_rfl) (fun v => by kernel_rfl) (fun v u => by kernel_rfl) (fun v u z => by kernel_rfl) (by kernel_rfl) (fun v => by kernel_rfl) (fun u => by kernel_rfl) (fun v => by kernel_rfl) (fun v u z => by kernel_rfl) (fun v u z => by kernel_rfl) ?_
          intro vC1 vC2 vC3
          simp only [Act.put, List.setIfInBounds_toArray, List.set_cons_succ, List.set_cons_zero]
          refine s_pick (.bool true) (by kernel_rfl) (by kernel_rfl) (by kernel_rfl) ?_
          simp only [Act.put, List.setIfInBounds_toArray, List.set_cons_succ, List.set_cons_zero]
          refine s_move (.bool true) (by kernel_rfl) (by kernel_rfl) ?_
          simp only [Act.put, List.setIfInBounds_toArray, List.set_cons_succ, List.set_cons_zero]
          refine s_move (.bool true) (by kernel_rfl) (by kernel_rfl) ?_
          simp only [Act.put, List.setIfInBounds_toArray, List.set_cons_succ, List.set_cons_zero]
          refine s_not true (by kernel_rfl) (by kernel_rfl) ?_
          simp only [Act.put, List.setIfInBounds_toArray, List.set_cons_succ, List.set_cons_zero]
          refine s_move (.bool (!true)) (by kernel_rfl) (by kernel_rfl) ?_
          simp only [Act.put, List.setIfInBounds_toArray, List.set_cons_succ, List.set_cons_zero]
          refine wpList_or_call _ _ _ HCI.out (cfSame _) (by kernel_rfl) (fun v => by kernel_rfl) (fun v u => by kernel_rfl) (fun v u z => by kernel_rfl) (by kernel_rfl) (fun v => by kernel_rfl) (fun u => by kernel_rfl) (fun v => by kernel_rfl) (fun v u z => by kernel_rfl) (fun v u z => by kernel_rfl) ?_
          intro vI1 vI2 vI3
          simp only [Act.put, List.setIfInBounds_toArray, List.set_cons_succ, List.set_cons_zero]
          refine s_pick (.bool true) (by kernel_rfl) (by kernel_rfl) (by kernel_rfl) ?_
          simp only [Act.put, List.setIfInBounds_toArray, List.set_cons_succ, List.set_cons_zero]
          refine s_move (.bool true) (by kernel_rfl) (by kernel_rfl) ?_
          simp only [Act.put, List.setIfInBounds_toArray, List.set_cons_succ, List.set_cons_zero]
          refine s_move (.bool q5) (by kernel_rfl) (by kernel_rfl) ?_
          simp only [Act.put, List.setIfInBounds_toArray, List.set_cons_succ, List.set_cons_zero]
          refine s_not q5 (by kernel_rfl) (by kernel_rfl) ?_
          simp only [Act.put, List.setIfInBounds_toArray, List.set_cons_succ, List.set_cons_zero]
          refine s_move (.bool (!q5)) (by kernel_rfl) (by kernel_rfl) ?_
          simp only [Act.put, List.setIfInBounds_toArray, List.set_cons_succ, List.set_cons_zero]
          refine wpList_or_call _ _ _ HCW.out (cfSame _) (by kernel_rfl) (fun v => by kernel_rfl) (fun v u => by kernel_rfl) (fun v u z => by kernel_rfl) (by kernel_rfl) (fun v => by kernel_rfl) (fun u => by kernel_rfl) (fun v => by kernel_rfl) (fun v u z => by kernel_rfl) (fun v u z => by kernel_rfl) ?_
          intro vW1 vW2 vW3
          simp only [Act.put, List.setIfInBounds_toArray, List.set_cons_succ, List.set_cons_zero]
          refine s_pick (.bool true) (by kernel_rfl) (by kernel_rfl) (by kernel_rfl) ?_
          simp only [Act.put, List.setIfInBounds_toArray, List.set_cons_succ, List.set_cons_zero]
          refine s_move (.bool true) (by kernel_rfl) (by kernel_rfl) ?_
          simp only [Act.put, List.setIfInBounds_toArray, List.set_cons_succ, List.set_cons_zero]
          refine s_move (.bool q6) (by kernel_rfl) (by kernel_rfl) ?_
          simp only [Act.put, List.setIfInBounds_toArray, List.set_cons_succ, List.set_cons_zero]
          refine s_not q6 (by kernel_rfl) (by kernel_rfl) ?_
          simp only [Act.put, List.setIfInBounds_toArray, List.set_cons_succ, List.set_cons_zero]
          refine s_move (.bool (!q6)) (by kernel_rfl) (by kernel_rfl) ?_
          simp only [Act.put, List.setIfInBounds_toArray, List.set_cons_succ, List.set_cons_zero]
          refine wpList_or_call _ _ _ HCK.out (cfSame _) (by kernel_rfl) (fun v => by kernel_rfl) (fun v u => by kernel_rfl) (fun v u z => by kernel_rfl) (by kernel_rfl) (fun v => by kernel_rfl) (fun u => by kernel_rfl) (fun v => by kernel_rfl) (fun v u z => by kernel_rfl) (fun v u z => by kernel_rfl) ?_
          intro vK1 vK2 vK3
          simp only [Act.put, List.setIfInBounds_toArray, List.set_cons_succ, List.set_cons_zero]
          refine s_pick (.bool true) (by kernel_rfl) (by kernel_rfl) (by kernel_rfl) ?_
          simp only [Act.put, List.setIfInBounds_toArray, List.set_cons_succ, List.set_cons_zero]
          go_wp2_with fail
          go_ret
          exact ⟨rfl, HB31.out⟩
        | false =>
          obtain rfl : nI = 0 := by rcases HTI.out with h | h; cases h; exact h
          go_wp2_with fail
          refine (HPT25.out w25 (Below.refl _ _)).mono ?_
          rintro e w26 ⟨uT, rT, XT, rfl, ho, hX, hb⟩
          obtain ⟨lT, hlT⟩ : ∃ l, XT.length = l := ⟨_, rfl⟩
          obtain ⟨BT, dT, rfl, -, -, -, -⟩ := ho.shape' hlT
          have HYT := Lib.hid hX
          have HLnT := Lib.hid hlT
          have HB26 := Lib.hid (HB25.out.trans (hb.mono hz25))
          have HPP26 := Lib.hid (HPP25.out.below hb)
          have HXP26 := Lib.hid (HXP25.out.below hb HXP25.out.lt)
          have HPC26 := Lib.hid (HPC25.out.below hb)
          have HXC26 := Lib.hid (HXC25.out.below hb HXC25.out.lt)
          have HPI26 := Lib.hid (HPI25.out.below hb)
          have HXI26 := Lib.hid (HXI25.out.below hb HXI25.out.lt)
          have HPW26 := Lib.hid (HPW25.out.below hb)
          have HXW26 := Lib.hid (HXW25.out.below hb HXW25.out.lt)
          have HPK26 := Lib.hid (HPK25.out.below hb)
          have HXK26 := Lib.hid (HXK25.out.below hb HXK25.out.lt)
          have HOT26 := Lib.hid ho
          have hz26 := Nat.le_trans hz25 hb.size
          clear hb ho hX hlT HB25 HPP25 HXP25 HPC25 HXC25 HPI25 HXI25 HPW25 HXW25 HPK25 HXK25 HPT25  hz25
          go_wp2_with (refine wpList_load_mid rfl 71 (.tmp 6) rfl gP 0 rfl csP _ (Blk.whole HXP26.out) Try.underlying71 rfl (by rw [HLP.out]; exact infoProp) ?_)
          refine (HPP26.out w26 (Below.refl _ _)).mono ?_
          rintro e w27 ⟨uP, rP, XP, rfl, ho, hX, hb⟩
          obtain ⟨lP, hlP⟩ : ∃ l, XP.length = l := ⟨_, rfl⟩
          obtain ⟨BP, dP, rfl, -, -, -, -⟩ := ho.shape' hlP
          have HYP := Lib.hid hX
          have HLnP := Lib.hid hlP
          have HB27 := Lib.hid (HB26.out.trans (hb.mono hz26))
          have HPC27 := Lib.hid (HPC26.out.below hb)
          have HXC27 := Lib.hid (HXC26.out.below hb HXC26.out.lt)
          have HPI27 := Lib.hid (HPI26.out.below hb)
          have HXI27 := Lib.hid (HXI26.out.below hb HXI26.out.lt)
          have HPW27 := Lib.hid (HPW26.out.below hb)
          have HXW27 := Lib.hid (HXW26.out.below hb HXW26.out.lt)
          have HPK27 := Lib.hid (HPK26.out.below hb)
          have HXK27 := Lib.hid (HXK26.out.below hb HXK26.out.lt)
          have HOT27 := Lib.hid (HOT26.out.below hb (Nat.le_refl _))
          have HOP27 := Lib.hid ho
          have hz27 := Nat.le_trans hz26 hb.size
          clear hb ho hX hlP HB26 HPC26 HXC26 HPI26 HXI26 HPW26 HXW26 HPK26 HXK26 HPP26 HXP26 HOT26 hz26
          go_wp2_with (refine wpList_load_mid rfl 82 (.tmp 8) rfl gC 0 rfl csC _ (Blk.whole HXC27.out) Try.underlying82 rfl (by rw [HLC.out]; exact infoCommit) ?_)
          refine (HPC27.out w27 (Below.refl _ _)).mono ?_
          rintro e w28 ⟨uC, rC, XC, rfl, ho, hX, hb⟩
          obtain ⟨lC, hlC⟩ : ∃ l, XC.length = l := ⟨_, rfl⟩
          obtain ⟨BC, dC, rfl, -, -, -, -⟩ := ho.shape' hlC
          have HYC := Lib.hid hX
          have HLnC := Lib.hid hlC
          have HB28 := Lib.hid (HB27.out.trans (hb.mono hz27))
          have HPI28 := Lib.hid (HPI27.out.below hb)
          have HXI28 := Lib.hid (HXI27.out.below hb HXI27.out.lt)
          have HPW28 := Lib.hid (HPW27.out.below hb)
          have HXW28 := Lib.hid (HXW27.out.below hb HXW27.out.lt)
          have HPK28 := Lib.hid (HPK27.out.below hb)
          have HXK28 := Lib.hid (HXK27.out.below hb HXK27.out.lt)
          have HOT28 := Lib.hid (HOT27.out.below hb (Nat.le_refl _))
          have HOP28 := Lib.hid (HOP27.out.below hb (Nat.le_refl _))
          have HOC28 := Lib.hid ho
          have hz28 := Nat.le_trans hz27 hb.size
          clear hb ho hX hlC HB27 HPI27 HXI27 HPW27 HXW27 HPK27 HXK27 HPC27 HXC27 HOT27 HOP27 hz27
          go_wp2_with (refine wpList_load_mid rfl 64 (.tmp 10) rfl gI 0 rfl csI _ (Blk.whole HXI28.out) Try.underlying64 rfl (by rw [HLI.out]; exact infoInfo) ?_)
          refine (HPI28.out w28 (Below.refl _ _)).mono ?_
          rintro e w29 ⟨uI, rI, XI, rfl, ho, hX, hb⟩
          obtain ⟨lI, hlI⟩ : ∃ l, XI.length = l := ⟨_, rfl⟩
          obtain ⟨BI, dI, rfl, -, -, -, -⟩ := ho.shape' hlI
          have HYI := Lib.hid hX
          have HLnI := Lib.hid hlI
          have HB29 := Lib.hid (HB28.out.trans (hb.mono hz28))
          have HPW29 := Lib.hid (HPW28.out.below hb)
          have HXW29 := Lib.hid (HXW28.out.below hb HXW28.out.lt)
          have HPK29 := Lib.hid (HPK28.out.below hb)
          have HXK29 := Lib.hid (HXK28.out.below hb HXK28.out.lt)
          have HOT29 := Lib.hid (HOT28.out.below hb (Nat.le_refl _))
          have HOP29 := Lib.hid (HOP28.out.below hb (Nat.le_refl _))
          have HOC29 := Lib.hid (HOC28.out.below hb (Nat.le_refl _))
          have HOI29 := Lib.hid ho
          have hz29 := Nat.le_trans hz28 hb.size
          clear hb ho hX hlI HB28 HPW28 HXW28 HPK28 HXK28 HPI28 HXI28 HOT28 HOP28 HOC28 hz28
          go_wp2_with (refine wpList_load_mid rfl 41 (.tmp 12) rfl gW 0 rfl csW _ (Blk.whole HXW29.out) Try.underlying41 rfl (by rw [HLW.out]; exact infoWelcome) ?_)
          refine (HPW29.out w29 (Below.refl _ _)).mono ?_
          rintro e w30 ⟨uW, rW, XW, rfl, ho, hX, hb⟩
          obtain ⟨lW, hlW⟩ : ∃ l, XW.length = l := ⟨_, rfl⟩
          obtain ⟨BW, dW, rfl, -, -, -, -⟩ := ho.shape' hlW
          have HYW := Lib.hid hX
          have HLnW := Lib.hid hlW
          have HB30 := Lib.hid (HB29.out.trans (hb.mono hz29))
          have HPK30 := Lib.hid (HPK29.out.below hb)
          have HXK30 := Lib.hid (HXK29.out.below hb HXK29.out.lt)
          have HOT30 := Lib.hid (HOT29.out.below hb (Nat.le_refl _))
          have HOP30 := Lib.hid (HOP29.out.below hb (Nat.le_refl _))
          have HOC30 := Lib.hid (HOC29.out.below hb (Nat.le_refl _))
          have HOI30 := Lib.hid (HOI29.out.below hb (Nat.le_refl _))
          have HOW30 := Lib.hid ho
          have hz30 := Nat.le_trans hz29 hb.size
          clear hb ho hX hlW HB29 HPK29 HXK29 HPW29 HXW29 HOT29 HOP29 HOC29 HOI29 hz29
          go_wp2_with (refine wpList_load_mid rfl 26 (.tmp 14) rfl gK 0 rfl csK _ (Blk.whole HXK30.out) Try.underlying26 rfl (by rw [HLK.out]; exact infoPacket) ?_)
          refine (HPK30.out w30 (Below.refl _ _)).mono ?_
          rintro e w31 ⟨uK, rK, XK, rfl, ho, hX, hb⟩
          obtain ⟨lK, hlK⟩ : ∃ l, XK.length = l := ⟨_, rfl⟩
          obtain ⟨BK, dK, rfl, -, -, -, -⟩ := ho.shape' hlK
          have HYK := Lib.hid hX
          have HLnK := Lib.hid hlK
          have HB31 := Lib.hid (HB30.out.trans (hb.mono hz30))
          have HOT31 := Lib.hid (HOT30.out.below hb (Nat.le_refl _))
          have HOP31 := Lib.hid (HOP30.out.below hb (Nat.le_refl _))
          have HOC31 := Lib.hid (HOC30.out.below hb (Nat.le_refl _))
          have HOI31 := Lib.hid (HOI30.out.below hb (Nat.le_refl _))
          have HOW31 := Lib.hid (HOW30.out.below hb (Nat.le_refl _))
          have HOK31 := Lib.hid ho
          have hz31 := Nat.le_trans hz30 hb.size
          clear hb ho hX hlK HB30 HPK30 HXK30 HOT30 HOP30 HOC30 HOI30 HOW30 hz30
          have HRs := Lib.hid (HR.out.below HB31.out)
          have HCT : Hid (IfT true (Calls Try.prog 18 #[.slice BT lT dT, .slice A n c] w31 fun e w' => e = .returned (.bool true) ∧ w31 = w')) := Lib.hid (fun hq => (same_any dT c HOT31.out.rd HRs.out HLnT.out HN.out).mono (by rintro e w' ⟨rfl, rfl⟩; rw [(by first | exact HYT.out hq | exact HYT.out trivial | exact HYT.out rfl : XT = bs), beq_self_eq_true]; exact ⟨rfl, rfl⟩))
          have HCP : Hid (IfT q2 (Calls Try.prog 18 #[.slice BP lP dP, .slice A n c] w31 fun e w' => e = .returned (.bool true) ∧ w31 = w')) := Lib.hid (fun hq => (same_any dP c HOP31.out.rd HRs.out HLnP.out HN.out).mono (by rintro e w' ⟨rfl, rfl⟩; rw [(by first | exact HYP.out hq | exact HYP.out trivial | exact HYP.out rfl : XP = bs), beq_self_eq_true]; exact ⟨rfl, rfl⟩))
          have HCC : Hid (IfT q3 (Calls Try.prog 18 #[.slice BC lC dC, .slice A n c] w31 fun e w' => e = .returned (.bool true) ∧ w31 = w')) := Lib.hid (fun hq => (same_any dC c HOC31.out.rd HRs.out HLnC.out HN.out).mono (by rintro e w' ⟨rfl, rfl⟩; rw [(by first | exact HYC.out hq | exact HYC.out trivial | exact HYC.out rfl : XC = bs), beq_self_eq_true]; exact ⟨rfl, rfl⟩))
          have HCI : Hid (IfT false (Calls Try.prog 18 #[.slice BI lI dI, .slice A n c] w31 fun e w' => e = .returned (.bool true) ∧ w31 = w')) := Lib.hid (fun hq => (same_any dI c HOI31.out.rd HRs.out HLnI.out HN.out).mono (by rintro e w' ⟨rfl, rfl⟩; rw [(by first | exact HYI.out hq | exact HYI.out trivial | exact HYI.out rfl : XI = bs), beq_self_eq_true]; exact ⟨rfl, rfl⟩))
          have HCW : Hid (IfT q5 (Calls Try.prog 18 #[.slice BW lW dW, .slice A n c] w31 fun e w' => e = .returned (.bool true) ∧ w31 = w')) := Lib.hid (fun hq => (same_any dW c HOW31.out.rd HRs.out HLnW.out HN.out).mono (by rintro e w' ⟨rfl, rfl⟩; rw [(by first | exact HYW.out hq | exact HYW.out trivial | exact HYW.out rfl : XW = bs), beq_self_eq_true]; exact ⟨rfl, rfl⟩))
          have HCK : Hid (IfT q6 (Calls Try.prog 18 #[.slice BK lK dK, .slice A n c] w31 fun e w' => e = .returned (.bool true) ∧ w31 = w')) := Lib.hid (fun hq => (same_any dK c HOK31.out.rd HRs.out HLnK.out HN.out).mono (by rintro e w' ⟨rfl, rfl⟩; rw [(by first | exact HYK.out hq | exact HYK.out trivial | exact HYK.out rfl : XK = bs), beq_self_eq_true]; exact ⟨rfl, rfl⟩))
          go_upto_region 34 with fail
          refine wp_region_lit ?_
          refine s_move (.bool true) (by kernel_rfl) (by kernel_rfl) ?_
          simp only [Act.put, List.setIfInBounds_toArray, List.set_cons_succ, List.set_cons_zero]
          refine s_not true (by kernel_rfl) (by kernel_rfl) ?_
          simp only [Act.put, List.setIfInBounds_toArray, List.set_cons_succ, List.set_cons_zero]
          refine s_move (.bool (!true)) (by kernel_rfl) (by kernel_rfl) ?_
          simp only [Act.put, List.setIfInBounds_toArray, List.set_cons_succ, List.set_cons_zero]
          refine wpList_or_call _ _ _ HCT.out (cfSame _) (by kernel_rfl) (fun v => by kernel_rfl) (fun v u => by kernel_rfl) (fun v u z => by kernel_rfl) (by kernel_rfl) (fun v => by kernel_rfl) (fun u => by kernel_rfl) (fun v => by kernel_rfl) (fun v u z => by kernel_rfl) (fun v u z => by kernel_rfl) ?_
          intro vT1 vT2 vT3
          simp only [Act.put, List.setIfInBounds_toArray, List.set_cons_succ, List.set_cons_zero]
          refine s_move (.bool true) (by kernel_rfl) (by kernel_rfl) ?_
          simp only [Act.put, List.setIfInBounds_toArray, List.set_cons_succ, List.set_cons_zero]
          refine s_move (.bool q2) (by kernel_rfl) (by kernel_rfl) ?_
          simp only [Act.put, List.setIfInBounds_toArray, List.set_cons_succ, List.set_cons_zero]
          refine s_not q2 (by kernel_rfl) (by kernel_rfl) ?_
          simp only [Act.put, List.setIfInBounds_toArray, List.set_cons_succ, List.set_cons_zero]
          refine s_move (.bool (!q2)) (by kernel_rfl) (by kernel_rfl) ?_
          simp only [Act.put, List.setIfInBounds_toArray, List.set_cons_succ, List.set_cons_zero]
          refine wpList_or_call _ _ _ HCP.out (cfSame _) (by kernel_rfl) (fun v => by kernel_rfl) (fun v u => by kernel_rfl) (fun v u z => by kernel_rfl) (by kernel_rfl) (fun v => by kernel_rfl) (fun u => by kernel_rfl) (fun v => by kernel_rfl) (fun v u z => by kernel_rfl) (fun v u z => by kernel_rfl) ?_
          intro vP1 vP2 vP3
          simp only [Act.put, List.setIfInBounds_toArray, List.set_cons_succ, List.set_cons_zero]
          refine s_pick (.bool true) (by kernel_rfl) (by kernel_rfl) (by kernel_rfl) ?_
          simp only [Act.put, List.setIfInBounds_toArray, List.set_cons_succ, List.set_cons_zero]
          refine s_move (.bool true) (by kernel_rfl) (by kernel_rfl) ?_
          simp only [Act.put, List.setIfInBounds_toArray, List.set_cons_succ, List.set_cons_zero]
          refine s_move (.bool q3) (by kernel_rfl) (by kernel_rfl) ?_
          simp only [Act.put, List.setIfInBounds_toArray, List.set_cons_succ, List.set_cons_zero]
          refine s_not q3 (by kernel_rfl) (by kernel_rfl) ?_
          simp only [Act.put, List.setIfInBounds_toArray, List.set_cons_succ, List.set_cons_zero]
          refine s_move (.bool (!q3)) (by kernel_rfl) (by kernel_rfl) ?_
          simp only [Act.put, List.setIfInBounds_toArray, List.set_cons_succ, List.set_cons_zero]
          refine wpList_or_call _ _ _ HCC.out (cfSame _) (by kernel_rfl) (fun v => by kernel_rfl) (fun v u => by kernel_rfl) (fun v u z => by kernel_rfl) (by kernel_rfl) (fun v => by kernel_rfl) (fun u => by kernel_rfl) (fun v => by kernel_rfl) (fun v u z => by kernel_rfl) (fun v u z => by kernel_rfl) ?_
          intro vC1 vC2 vC3
          simp only [Act.put, List.setIfInBounds_toArray, List.set_cons_succ, List.set_cons_zero]
          refine s_pick (.bool true) (by kernel_rfl) (by kernel_rfl) (by kernel_rfl) ?_
          simp only [Act.put, List.setIfInBounds_toArray, List.set_cons_succ, List.set_cons_zero]
          refine s_move (.bool true) (by kernel_rfl) (by kernel_rfl) ?_
          simp only [Act.put, List.setIfInBounds_toArray, List.set_cons_succ, List.set_cons_zero]
          refine s_move (.bool false) (by kernel_rfl) (by kernel_rfl) ?_
          simp only [Act.put, List.setIfInBounds_toArray, List.set_cons_succ, List.set_cons_zero]
          refine s_not false (by kernel_rfl) (by kernel_rfl) ?_
          simp only [Act.put, List.setIfInBounds_toArray, List.set_cons_succ, List.set_cons_zero]
          refine s_move (.bool (!false)) (by kernel_rfl) (by kernel_rfl) ?_
          simp only [Act.put, List.setIfInBounds_toArray, List.set_cons_succ, List.set_cons_zero]
          refine wpList_or_call _ _ _ HCI.out (cfSame _) (by kernel_rfl) (fun v => by kernel_rfl) (fun v u => by kernel_rfl) (fun v u z => by kernel_rfl) (by kernel_rfl) (fun v => by kernel_rfl) (fun u => by kernel_rfl) (fun v => by kernel_rfl) (fun v u z => by kernel_rfl) (fun v u z => by kernel_rfl) ?_
          intro vI1 vI2 vI3
          simp only [Act.put, List.setIfInBounds_toArray, List.set_cons_succ, List.set_cons_zero]
          refine s_pick (.bool true) (by kernel_rfl) (by kernel_rfl) (by kernel_rfl) ?_
          simp only [Act.put, List.setIfInBounds_toArray, List.set_cons_succ, List.set_cons_zero]
          refine s_move (.bool true) (by kernel_rfl) (by kernel_rfl) ?_
          simp only [Act.put, List.setIfInBounds_toArray, List.set_cons_succ, List.set_cons_zero]
          refine s_move (.bool q5) (by kernel_rfl) (by kernel_rfl) ?_
          simp only [Act.put, List.setIfInBounds_toArray, List.set_cons_succ, List.set_cons_zero]
          refine s_not q5 (by kernel_rfl) (by kernel_rfl) ?_
          simp only [Act.put, List.setIfInBounds_toArray, List.set_cons_succ, List.set_cons_zero]
          refine s_move (.bool (!q5)) (by kernel_rfl) (by kernel_rfl) ?_
          simp only [Act.put, List.setIfInBounds_toArray, List.set_cons_succ, List.set_cons_zero]
          refine wpList_or_call _ _ _ HCW.out (cfSame _) (by kernel_rfl) (fun v => by kernel_rfl) (fun v u => by kernel_rfl) (fun v u z => by kernel_rfl) (by kernel_rfl) (fun v => by kernel_rfl) (fun u => by kernel_rfl) (fun v => by kernel_rfl) (fun v u z => by kernel_rfl) (fun v u z => by kernel_rfl) ?_
          intro vW1 vW2 vW3
          simp only [Act.put, List.setIfInBounds_toArray, List.set_cons_succ, List.set_cons_zero]
          refine s_pick (.bool true) (by kernel_rfl) (by kernel_rfl) (by kernel_rfl) ?_
          simp only [Act.put, List.setIfInBounds_toArray, List.set_cons_succ, List.set_cons_zero]
          refine s_move (.bool true) (by kernel_rfl) (by kernel_rfl) ?_
          simp only [Act.put, List.setIfInBounds_toArray, List.set_cons_succ, List.set_cons_zero]
          refine s_move (.bool q6) (by kernel_rfl) (by kernel_rfl) ?_
          simp only [Act.put, List.setIfInBounds_toArray, List.set_cons_succ, List.set_cons_zero]
          refine s_not q6 (by kernel_rfl) (by kernel_rfl) ?_
          simp only [Act.put, List.setIfInBounds_toArray, List.set_cons_succ, List.set_cons_zero]
          refine s_move (.bool (!q6)) (by kernel_rfl) (by kernel_rfl) ?_
          simp only [Act.put, List.setIfInBounds_toArray, List.set_cons_succ, List.set_cons_zero]
          refine wpList_or_call _ _ _ HCK.out (cfSame _) (by kernel_rfl) (fun v => by kernel_rfl) (fun v u => by kernel_rfl) (fun v u z => by kernel_rfl) (by kernel_rfl) (fun v => by kernel_rfl) (fun u => by kernel_rfl) (fun v => by kernel_rfl) (fun v u z => by kernel_rfl) (fun v u z => by kernel_rfl) ?_
          intro vK1 vK2 vK3
          simp only [Act.put, List.setIfInBounds_toArray, List.set_cons_succ, List.set_cons_zero]
          refine s_pick (.bool true) (by kernel_rfl) (by kernel_rfl) (by kernel_rfl) ?_
          simp only [Act.put, List.setIfInBounds_toArray, List.set_cons_succ, List.set_cons_zero]
          go_wp2_with fail
          go_ret
          exact ⟨rfl, HB31.out⟩
      | false =>
        obtain rfl : n3 = 0 := by rcases HT3.out with h | h; cases h; exact h
        cases q4 with
        | true =>
          go_wp2_with fail
          refine (HPT25.out w25 (Below.refl _ _)).mono ?_
          rintro e w26 ⟨uT, rT, XT, rfl, ho, hX, hb⟩
          obtain ⟨lT, hlT⟩ : ∃ l, XT.length = l := ⟨_, rfl⟩
          obtain ⟨BT, dT, rfl, -, -, -, -⟩ := ho.shape' hlT
          have HYT := Lib.hid hX
          have HLnT := Lib.hid hlT
          have HB26 := Lib.hid (HB25.out.trans (hb.mono hz25))
          have HPP26 := Lib.hid (HPP25.out.below hb)
          have HXP26 := Lib.hid (HXP25.out.below hb HXP25.out.lt)
          have HPC26 := Lib.hid (HPC25.out.below hb)
          have HXC26 := Lib.hid (HXC25.out.below hb HXC25.out.lt)
          have HPI26 := Lib.hid (HPI25.out.below hb)
          have HXI26 := Lib.hid (HXI25.out.below hb HXI25.out.lt)
          have HPW26 := Lib.hid (HPW25.out.below hb)
          have HXW26 := Lib.hid (HXW25.out.below hb HXW25.out.lt)
          have HPK26 := Lib.hid (HPK25.out.below hb)
          have HXK26 := Lib.hid (HXK25.out.below hb HXK25.out.lt)
          have HOT26 := Lib.hid ho
          have hz26 := Nat.le_trans hz25 hb.size
          clear hb ho hX hlT HB25 HPP25 HXP25 HPC25 HXC25 HPI25 HXI25 HPW25 HXW25 HPK25 HXK25 HPT25  hz25
          go_wp2_with (refine wpList_load_mid rfl 71 (.tmp 6) rfl gP 0 rfl csP _ (Blk.whole HXP26.out) Try.underlying71 rfl (by rw [HLP.out]; exact infoProp) ?_)
          refine (HPP26.out w26 (Below.refl _ _)).mono ?_
          rintro e w27 ⟨uP, rP, XP, rfl, ho, hX, hb⟩
          obtain ⟨lP, hlP⟩ : ∃ l, XP.length = l := ⟨_, rfl⟩
          obtain ⟨BP, dP, rfl, -, -, -, -⟩ := ho.shape' hlP
          have HYP := Lib.hid hX
          have HLnP := Lib.hid hlP
          have HB27 := Lib.hid (HB26.out.trans (hb.mono hz26))
          have HPC27 := Lib.hid (HPC26.out.below hb)
          have HXC27 := Lib.hid (HXC26.out.below hb HXC26.out.lt)
          have HPI27 := Lib.hid (HPI26.out.below hb)
          have HXI27 := Lib.hid (HXI26.out.below hb HXI26.out.lt)
          have HPW27 := Lib.hid (HPW26.out.below hb)
          have HXW27 := Lib.hid (HXW26.out.below hb HXW26.out.lt)
          have HPK27 := Lib.hid (HPK26.out.below hb)
          have HXK27 := Lib.hid (HXK26.out.below hb HXK26.out.lt)
          have HOT27 := Lib.hid (HOT26.out.below hb (Nat.le_refl _))
          have HOP27 := Lib.hid ho
          have hz27 := Nat.le_trans hz26 hb.size
          clear hb ho hX hlP HB26 HPC26 HXC26 HPI26 HXI26 HPW26 HXW26 HPK26 HXK26 HPP26 HXP26 HOT26 hz26
          go_wp2_with (refine wpList_load_mid rfl 82 (.tmp 8) rfl gC 0 rfl csC _ (Blk.whole HXC27.out) Try.underlying82 rfl (by rw [HLC.out]; exact infoCommit) ?_)
          refine (HPC27.out w27 (Below.refl _ _)).mono ?_
          rintro e w28 ⟨uC, rC, XC, rfl, ho, hX, hb⟩
          obtain ⟨lC, hlC⟩ : ∃ l, XC.length = l := ⟨_, rfl⟩
          obtain ⟨BC, dC, rfl, -, -, -, -⟩ := ho.shape' hlC
          have HYC := Lib.hid hX
          have HLnC := Lib.hid hlC
          have HB28 := Lib.hid (HB27.out.trans (hb.mono hz27))
          have HPI28 := Lib.hid (HPI27.out.below hb)
          have HXI28 := Lib.hid (HXI27.out.below hb HXI27.out.lt)
          have HPW28 := Lib.hid (HPW27.out.below hb)
          have HXW28 := Lib.hid (HXW27.out.below hb HXW27.out.lt)
          have HPK28 := Lib.hid (HPK27.out.below hb)
          have HXK28 := Lib.hid (HXK27.out.below hb HXK27.out.lt)
          have HOT28 := Lib.hid (HOT27.out.below hb (Nat.le_refl _))
          have HOP28 := Lib.hid (HOP27.out.below hb (Nat.le_refl _))
          have HOC28 := Lib.hid ho
          have hz28 := Nat.le_trans hz27 hb.size
          clear hb ho hX hlC HB27 HPI27 HXI27 HPW27 HXW27 HPK27 HXK27 HPC27 HXC27 HOT27 HOP27 hz27
          go_wp2_with (refine wpList_load_mid rfl 64 (.tmp 10) rfl gI 0 rfl csI _ (Blk.whole HXI28.out) Try.underlying64 rfl (by rw [HLI.out]; exact infoInfo) ?_)
          refine (HPI28.out w28 (Below.refl _ _)).mono ?_
          rintro e w29 ⟨uI, rI, XI, rfl, ho, hX, hb⟩
          obtain ⟨lI, hlI⟩ : ∃ l, XI.length = l := ⟨_, rfl⟩
          obtain ⟨BI, dI, rfl, -, -, -, -⟩ := ho.shape' hlI
          have HYI := Lib.hid hX
          have HLnI := Lib.hid hlI
          have HB29 := Lib.hid (HB28.out.trans (hb.mono hz28))
          have HPW29 := Lib.hid (HPW28.out.below hb)
          have HXW29 := Lib.hid (HXW28.out.below hb HXW28.out.lt)
          have HPK29 := Lib.hid (HPK28.out.below hb)
          have HXK29 := Lib.hid (HXK28.out.below hb HXK28.out.lt)
          have HOT29 := Lib.hid (HOT28.out.below hb (Nat.le_refl _))
          have HOP29 := Lib.hid (HOP28.out.below hb (Nat.le_refl _))
          have HOC29 := Lib.hid (HOC28.out.below hb (Nat.le_refl _))
          have HOI29 := Lib.hid ho
          have hz29 := Nat.le_trans hz28 hb.size
          clear hb ho hX hlI HB28 HPW28 HXW28 HPK28 HXK28 HPI28 HXI28 HOT28 HOP28 HOC28 hz28
          go_wp2_with (refine wpList_load_mid rfl 41 (.tmp 12) rfl gW 0 rfl csW _ (Blk.whole HXW29.out) Try.underlying41 rfl (by rw [HLW.out]; exact infoWelcome) ?_)
          refine (HPW29.out w29 (Below.refl _ _)).mono ?_
          rintro e w30 ⟨uW, rW, XW, rfl, ho, hX, hb⟩
          obtain ⟨lW, hlW⟩ : ∃ l, XW.length = l := ⟨_, rfl⟩
          obtain ⟨BW, dW, rfl, -, -, -, -⟩ := ho.shape' hlW
          have HYW := Lib.hid hX
          have HLnW := Lib.hid hlW
          have HB30 := Lib.hid (HB29.out.trans (hb.mono hz29))
          have HPK30 := Lib.hid (HPK29.out.below hb)
          have HXK30 := Lib.hid (HXK29.out.below hb HXK29.out.lt)
          have HOT30 := Lib.hid (HOT29.out.below hb (Nat.le_refl _))
          have HOP30 := Lib.hid (HOP29.out.below hb (Nat.le_refl _))
          have HOC30 := Lib.hid (HOC29.out.below hb (Nat.le_refl _))
          have HOI30 := Lib.hid (HOI29.out.below hb (Nat.le_refl _))
          have HOW30 := Lib.hid ho
          have hz30 := Nat.le_trans hz29 hb.size
          clear hb ho hX hlW HB29 HPK29 HXK29 HPW29 HXW29 HOT29 HOP29 HOC29 HOI29 hz29
          go_wp2_with (refine wpList_load_mid rfl 26 (.tmp 14) rfl gK 0 rfl csK _ (Blk.whole HXK30.out) Try.underlying26 rfl (by rw [HLK.out]; exact infoPacket) ?_)
          refine (HPK30.out w30 (Below.refl _ _)).mono ?_
          rintro e w31 ⟨uK, rK, XK, rfl, ho, hX, hb⟩
          obtain ⟨lK, hlK⟩ : ∃ l, XK.length = l := ⟨_, rfl⟩
          obtain ⟨BK, dK, rfl, -, -, -, -⟩ := ho.shape' hlK
          have HYK := Lib.hid hX
          have HLnK := Lib.hid hlK
          have HB31 := Lib.hid (HB30.out.trans (hb.mono hz30))
          have HOT31 := Lib.hid (HOT30.out.below hb (Nat.le_refl _))
          have HOP31 := Lib.hid (HOP30.out.below hb (Nat.le_refl _))
          have HOC31 := Lib.hid (HOC30.out.below hb (Nat.le_refl _))
          have HOI31 := Lib.hid (HOI30.out.below hb (Nat.le_refl _))
          have HOW31 := Lib.hid (HOW30.out.below hb (Nat.le_refl _))
          have HOK31 := Lib.hid ho
          have hz31 := Nat.le_trans hz30 hb.size
          clear hb ho hX hlK HB30 HPK30 HXK30 HOT30 HOP30 HOC30 HOI30 HOW30 hz30
          have HRs := Lib.hid (HR.out.below HB31.out)
          have HCT : Hid (IfT false (Calls Try.prog 18 #[.slice BT lT dT, .slice A n c] w31 fun e w' => e = .returned (.bool true) ∧ w31 = w')) := Lib.hid (fun hq => (same_any dT c HOT31.out.rd HRs.out HLnT.out HN.out).mono (by rintro e w' ⟨rfl, rfl⟩; rw [(by first | exact HYT.out hq | exact HYT.out trivial | exact HYT.out rfl : XT = bs), beq_self_eq_true]; exact ⟨rfl, rfl⟩))
          have HCP : Hid (IfT q2 (Calls Try.prog 18 #[.slice BP lP dP, .slice A n c] w31 fun e w' => e = .returned (.bool true) ∧ w31 = w')) := Lib.hid (fun hq => (same_any dP c HOP31.out.rd HRs.out HLnP.out HN.out).mono (by rintro e w' ⟨rfl, rfl⟩; rw [(by first | exact HYP.out hq | exact HYP.out trivial | exact HYP.out rfl : XP = bs), beq_self_eq_true]; exact ⟨rfl, rfl⟩))
          have HCC : Hid (IfT q3 (Calls Try.prog 18 #[.slice BC lC dC, .slice A n c] w31 fun e w' => e = .returned (.bool true) ∧ w31 = w')) := Lib.hid (fun hq => (same_any dC c HOC31.out.rd HRs.out HLnC.out HN.out).mono (by rintro e w' ⟨rfl, rfl⟩; rw [(by first | exact HYC.out hq | exact HYC.out trivial | exact HYC.out rfl : XC = bs), beq_self_eq_true]; exact ⟨rfl, rfl⟩))
          have HCI : Hid (IfT true (Calls Try.prog 18 #[.slice BI lI dI, .slice A n c] w31 fun e w' => e = .returned (.bool true) ∧ w31 = w')) := Lib.hid (fun hq => (same_any dI c HOI31.out.rd HRs.out HLnI.out HN.out).mono (by rintro e w' ⟨rfl, rfl⟩; rw [(by first | exact HYI.out hq | exact HYI.out trivial | exact HYI.out rfl : XI = bs), beq_self_eq_true]; exact ⟨rfl, rfl⟩))
          have HCW : Hid (IfT q5 (Calls Try.prog 18 #[.slice BW lW dW, .slice A n c] w31 fun e w' => e = .returned (.bool true) ∧ w31 = w')) := Lib.hid (fun hq => (same_any dW c HOW31.out.rd HRs.out HLnW.out HN.out).mono (by rintro e w' ⟨rfl, rfl⟩; rw [(by first | exact HYW.out hq | exact HYW.out trivial | exact HYW.out rfl : XW = bs), beq_self_eq_true]; exact ⟨rfl, rfl⟩))
          have HCK : Hid (IfT q6 (Calls Try.prog 18 #[.slice BK lK dK, .slice A n c] w31 fun e w' => e = .returned (.bool true) ∧ w31 = w')) := Lib.hid (fun hq => (same_any dK c HOK31.out.rd HRs.out HLnK.out HN.out).mono (by rintro e w' ⟨rfl, rfl⟩; rw [(by first | exact HYK.out hq | exact HYK.out trivial | exact HYK.out rfl : XK = bs), beq_self_eq_true]; exact ⟨rfl, rfl⟩))
          go_upto_region 34 with fail
          refine wp_region_lit ?_
          refine s_move (.bool false) (by kernel_rfl) (by kernel_rfl) ?_
          simp only [Act.put, List.setIfInBounds_toArray, List.set_cons_succ, List.set_cons_zero]
          refine s_not false (by kernel_rfl) (by kernel_rfl) ?_
          simp only [Act.put, List.setIfInBounds_toArray, List.set_cons_succ, List.set_cons_zero]
          refine s_move (.bool (!false)) (by kernel_rfl) (by kernel_rfl) ?_
          simp only [Act.put, List.setIfInBounds_toArray, List.set_cons_succ, List.set_cons_zero]
          refine wpList_or_call _ _ _ HCT.out (cfSame _) (by kernel_rfl) (fun v => by kernel_rfl) (fun v u => by kernel_rfl) (fun v u z => by kernel_rfl) (by kernel_rfl) (fun v => by kernel_rfl) (fun u => by kernel_rfl) (fun v => by kernel_rfl) (fun v u z => by kernel_rfl) (fun v u z => by kernel_rfl) ?_
          intro vT1 vT2 vT3
          simp only [Act.put, List.setIfInBounds_toArray, List.set_cons_succ, List.set_cons_zero]
          refine s_move (.bool true) (by kernel_rfl) (by kernel_rfl) ?_
          simp only [Act.put, List.setIfInBounds_toArray, List.set_cons_succ, List.set_cons_zero]
          refine s_move (.bool q2) (by kernel_rfl) (by kernel_rfl) ?_
          simp only [Act.put, List.setIfInBounds_toArray, List.set_cons_succ, List.set_cons_zero]
          refine s_not q2 (by kernel_rfl) (by kernel_rfl) ?_
          simp only [Act.put, List.setIfInBounds_toArray, List.set_cons_succ, List.set_cons_zero]
          refine s_move (.bool (!q2)) (by kernel_rfl) (by kernel_rfl) ?_
          simp only [Act.put, List.setIfInBounds_toArray, List.set_cons_succ, List.set_cons_zero]
          refine wpList_or_call _ _ _ HCP.out (cfSame _) (by kernel_rfl) (fun v => by kernel_rfl) (fun v u => by kernel_rfl) (fun v u z => by kernel_rfl) (by kernel_rfl) (fun v => by kernel_rfl) (fun u => by kernel_rfl) (fun v => by kernel_rfl) (fun v u z => by kernel_rfl) (fun v u z => by kernel_rfl) ?_
          intro vP1 vP2 vP3
          simp only [Act.put, List.setIfInBounds_toArray, List.set_cons_succ, List.set_cons_zero]
          refine s_pick (.bool true) (by kernel_rfl) (by kernel_rfl) (by kernel_rfl) ?_
          simp only [Act.put, List.setIfInBounds_toArray, List.set_cons_succ, List.set_cons_zero]
          refine s_move (.bool true) (by kernel_rfl) (by kernel_rfl) ?_
          simp only [Act.put, List.setIfInBounds_toArray, List.set_cons_succ, List.set_cons_zero]
          refine s_move (.bool q3) (by kernel_rfl) (by kernel_rfl) ?_
          simp only [Act.put, List.setIfInBounds_toArray, List.set_cons_succ, List.set_cons_zero]
          refine s_not q3 (by kernel_rfl) (by kernel_rfl) ?_
          simp only [Act.put, List.setIfInBounds_toArray, List.set_cons_succ, List.set_cons_zero]
          refine s_move (.bool (!q3)) (by kernel_rfl) (by kernel_rfl) ?_
          simp only [Act.put, List.setIfInBounds_toArray, List.set_cons_succ, List.set_cons_zero]
          refine wpList_or_call _ _ _ HCC.out (cfSame _) (by kernel_rfl) (fun v => by kernel_rfl) (fun v u => by kernel_rfl) (fun v u z => by kernel_rfl) (by kernel_rfl) (fun v => by kernel_rfl) (fun u => by kernel_rfl) (fun v => by kernel_rfl) (fun v u z => by kernel_rfl) (fun v u z => by kernel_rfl) ?_
          intro vC1 vC2 vC3
          simp only [Act.put, List.setIfInBounds_toArray, List.set_cons_succ, List.set_cons_zero]
          refine s_pick (.bool true) (by kernel_rfl) (by kernel_rfl) (by kernel_rfl) ?_
          simp only [Act.put, List.setIfInBounds_toArray, List.set_cons_succ, List.set_cons_zero]
          refine s_move (.bool true) (by kernel_rfl) (by kernel_rfl) ?_
          simp only [Act.put, List.setIfInBounds_toArray, List.set_cons_succ, List.set_cons_zero]
          refine s_move (.bool true) (by kernel_rfl) (by kernel_rfl) ?_
          simp only [Act.put, List.setIfInBounds_toArray, List.set_cons_succ, List.set_cons_zero]
          refine s_not true (by kernel_rfl) (by kernel_rfl) ?_
          simp only [Act.put, List.setIfInBounds_toArray, List.set_cons_succ, List.set_cons_zero]
          refine s_move (.bool (!true)) (by kernel_rfl) (by kernel_rfl) ?_
          simp only [Act.put, List.setIfInBounds_toArray, List.set_cons_succ, List.set_cons_zero]
          refine wpList_or_call _ _ _ HCI.out (cfSame _) (by kernel_rfl) (fun v => by kernel_rfl) (fun v u => by kernel_rfl) (fun v u z => by kernel_rfl) (by kernel_rfl) (fun v => by kernel_rfl) (fun u => by kernel_rfl) (fun v => by kernel_rfl) (fun v u z => by kernel_rfl) (fun v u z => by kernel_rfl) ?_
          intro vI1 vI2 vI3
          simp only [Act.put, List.setIfInBounds_toArray, List.set_cons_succ, List.set_cons_zero]
          refine s_pick (.bool true) (by kernel_rfl) (by kernel_rfl) (by kernel_rfl) ?_
          simp only [Act.put, List.setIfInBounds_toArray, List.set_cons_succ, List.set_cons_zero]
          refine s_move (.bool true) (by kernel_rfl) (by kernel_rfl) ?_
          simp only [Act.put, List.setIfInBounds_toArray, List.set_cons_succ, List.set_cons_zero]
          refine s_move (.bool q5) (by kernel_rfl) (by kernel_rfl) ?_
          simp only [Act.put, List.setIfInBounds_toArray, List.set_cons_succ, List.set_cons_zero]
          refine s_not q5 (by kernel_rfl) (by kernel_rfl) ?_
          simp only [Act.put, List.setIfInBounds_toArray, List.set_cons_succ, List.set_cons_zero]
          refine s_move (.bool (!q5)) (by kernel_rfl) (by kernel_rfl) ?_
          simp only [Act.put, List.setIfInBounds_toArray, List.set_cons_succ, List.set_cons_zero]
          refine wpList_or_call _ _ _ HCW.out (cfSame _) (by kernel_rfl) (fun v => by kernel_rfl) (fun v u => by kernel_rfl) (fun v u z => by kernel_rfl) (by kernel_rfl) (fun v => by kernel_rfl) (fun u => by kernel_rfl) (fun v => by kernel_rfl) (fun v u z => by kernel_rfl) (fun v u z => by kernel_rfl) ?_
          intro vW1 vW2 vW3
          simp only [Act.put, List.setIfInBounds_toArray, List.set_cons_succ, List.set_cons_zero]
          refine s_pick (.bool true) (by kernel_rfl) (by kernel_rfl) (by kernel_rfl) ?_
          simp only [Act.put, List.setIfInBounds_toArray, List.set_cons_succ, List.set_cons_zero]
          refine s_move (.bool true) (by kernel_rfl) (by kernel_rfl) ?_
          simp only [Act.put, List.setIfInBounds_toArray, List.set_cons_succ, List.set_cons_zero]
          refine s_move (.bool q6) (by kernel_rfl) (by kernel_rfl) ?_
          simp only [Act.put, List.setIfInBounds_toArray, List.set_cons_succ, List.set_cons_zero]
          refine s_not q6 (by kernel_rfl) (by kernel_rfl) ?_
          simp only [Act.put, List.setIfInBounds_toArray, List.set_cons_succ, List.set_cons_zero]
          refine s_move (.bool (!q6)) (by kernel_rfl) (by kernel_rfl) ?_
          simp only [Act.put, List.setIfInBounds_toArray, List.set_cons_succ, List.set_cons_zero]
          refine wpList_or_call _ _ _ HCK.out (cfSame _) (by kernel_rfl) (fun v => by kernel_rfl) (fun v u => by kernel_rfl) (fun v u z => by kernel_rfl) (by kernel_rfl) (fun v => by kernel_rfl) (fun u => by kernel_rfl) (fun v => by kernel_rfl) (fun v u z => by kernel_rfl) (fun v u z => by kernel_rfl) ?_
          intro vK1 vK2 vK3
          simp only [Act.put, List.setIfInBounds_toArray, List.set_cons_succ, List.set_cons_zero]
          refine s_pick (.bool true) (by kernel_rfl) (by kernel_rfl) (by kernel_rfl) ?_
          simp only [Act.put, List.setIfInBounds_toArray, List.set_cons_succ, List.set_cons_zero]
          go_wp2_with fail
          go_ret
          exact ⟨rfl, HB31.out⟩
        | false =>
          obtain rfl : nI = 0 := by rcases HTI.out with h | h; cases h; exact h
          go_wp2_with fail
          refine (HPT25.out w25 (Below.refl _ _)).mono ?_
          rintro e w26 ⟨uT, rT, XT, rfl, ho, hX, hb⟩
          obtain ⟨lT, hlT⟩ : ∃ l, XT.length = l := ⟨_, rfl⟩
          obtain ⟨BT, dT, rfl, -, -, -, -⟩ := ho.shape' hlT
          have HYT := Lib.hid hX
          have HLnT := Lib.hid hlT
          have HB26 := Lib.hid (HB25.out.trans (hb.mono hz25))
          have HPP26 := Lib.hid (HPP25.out.below hb)
          have HXP26 := Lib.hid (HXP25.out.below hb HXP25.out.lt)
          have HPC26 := Lib.hid (HPC25.out.below hb)
          have HXC26 := Lib.hid (HXC25.out.below hb HXC25.out.lt)
          have HPI26 := Lib.hid (HPI25.out.below hb)
          have HXI26 := Lib.hid (HXI25.out.below hb HXI25.out.lt)
          have HPW26 := Lib.hid (HPW25.out.below hb)
          have HXW26 := Lib.hid (HXW25.out.below hb HXW25.out.lt)
          have HPK26 := Lib.hid (HPK25.out.below hb)
          have HXK26 := Lib.hid (HXK25.out.below hb HXK25.out.lt)
          have HOT26 := Lib.hid ho
          have hz26 := Nat.le_trans hz25 hb.size
          clear hb ho hX hlT HB25 HPP25 HXP25 HPC25 HXC25 HPI25 HXI25 HPW25 HXW25 HPK25 HXK25 HPT25  hz25
          go_wp2_with (refine wpList_load_mid rfl 71 (.tmp 6) rfl gP 0 rfl csP _ (Blk.whole HXP26.out) Try.underlying71 rfl (by rw [HLP.out]; exact infoProp) ?_)
          refine (HPP26.out w26 (Below.refl _ _)).mono ?_
          rintro e w27 ⟨uP, rP, XP, rfl, ho, hX, hb⟩
          obtain ⟨lP, hlP⟩ : ∃ l, XP.length = l := ⟨_, rfl⟩
          obtain ⟨BP, dP, rfl, -, -, -, -⟩ := ho.shape' hlP
          have HYP := Lib.hid hX
          have HLnP := Lib.hid hlP
          have HB27 := Lib.hid (HB26.out.trans (hb.mono hz26))
          have HPC27 := Lib.hid (HPC26.out.below hb)
          have HXC27 := Lib.hid (HXC26.out.below hb HXC26.out.lt)
          have HPI27 := Lib.hid (HPI26.out.below hb)
          have HXI27 := Lib.hid (HXI26.out.below hb HXI26.out.lt)
          have HPW27 := Lib.hid (HPW26.out.below hb)
          have HXW27 := Lib.hid (HXW26.out.below hb HXW26.out.lt)
          have HPK27 := Lib.hid (HPK26.out.below hb)
          have HXK27 := Lib.hid (HXK26.out.below hb HXK26.out.lt)
          have HOT27 := Lib.hid (HOT26.out.below hb (Nat.le_refl _))
          have HOP27 := Lib.hid ho
          have hz27 := Nat.le_trans hz26 hb.size
          clear hb ho hX hlP HB26 HPC26 HXC26 HPI26 HXI26 HPW26 HXW26 HPK26 HXK26 HPP26 HXP26 HOT26 hz26
          go_wp2_with (refine wpList_load_mid rfl 82 (.tmp 8) rfl gC 0 rfl csC _ (Blk.whole HXC27.out) Try.underlying82 rfl (by rw [HLC.out]; exact infoCommit) ?_)
          refine (HPC27.out w27 (Below.refl _ _)).mono ?_
          rintro e w28 ⟨uC, rC, XC, rfl, ho, hX, hb⟩
          obtain ⟨lC, hlC⟩ : ∃ l, XC.length = l := ⟨_, rfl⟩
          obtain ⟨BC, dC, rfl, -, -, -, -⟩ := ho.shape' hlC
          have HYC := Lib.hid hX
          have HLnC := Lib.hid hlC
          have HB28 := Lib.hid (HB27.out.trans (hb.mono hz27))
          have HPI28 := Lib.hid (HPI27.out.below hb)
          have HXI28 := Lib.hid (HXI27.out.below hb HXI27.out.lt)
          have HPW28 := Lib.hid (HPW27.out.below hb)
          have HXW28 := Lib.hid (HXW27.out.below hb HXW27.out.lt)
          have HPK28 := Lib.hid (HPK27.out.below hb)
          have HXK28 := Lib.hid (HXK27.out.below hb HXK27.out.lt)
          have HOT28 := Lib.hid (HOT27.out.below hb (Nat.le_refl _))
          have HOP28 := Lib.hid (HOP27.out.below hb (Nat.le_refl _))
          have HOC28 := Lib.hid ho
          have hz28 := Nat.le_trans hz27 hb.size
          clear hb ho hX hlC HB27 HPI27 HXI27 HPW27 HXW27 HPK27 HXK27 HPC27 HXC27 HOT27 HOP27 hz27
          go_wp2_with (refine wpList_load_mid rfl 64 (.tmp 10) rfl gI 0 rfl csI _ (Blk.whole HXI28.out) Try.underlying64 rfl (by rw [HLI.out]; exact infoInfo) ?_)
          refine (HPI28.out w28 (Below.refl _ _)).mono ?_
          rintro e w29 ⟨uI, rI, XI, rfl, ho, hX, hb⟩
          obtain ⟨lI, hlI⟩ : ∃ l, XI.length = l := ⟨_, rfl⟩
          obtain ⟨BI, dI, rfl, -, -, -, -⟩ := ho.shape' hlI
          have HYI := Lib.hid hX
          have HLnI := Lib.hid hlI
          have HB29 := Lib.hid (HB28.out.trans (hb.mono hz28))
          have HPW29 := Lib.hid (HPW28.out.below hb)
          have HXW29 := Lib.hid (HXW28.out.below hb HXW28.out.lt)
          have HPK29 := Lib.hid (HPK28.out.below hb)
          have HXK29 := Lib.hid (HXK28.out.below hb HXK28.out.lt)
          have HOT29 := Lib.hid (HOT28.out.below hb (Nat.le_refl _))
          have HOP29 := Lib.hid (HOP28.out.below hb (Nat.le_refl _))
          have HOC29 := Lib.hid (HOC28.out.below hb (Nat.le_refl _))
          have HOI29 := Lib.hid ho
          have hz29 := Nat.le_trans hz28 hb.size
          clear hb ho hX hlI HB28 HPW28 HXW28 HPK28 HXK28 HPI28 HXI28 HOT28 HOP28 HOC28 hz28
          go_wp2_with (refine wpList_load_mid rfl 41 (.tmp 12) rfl gW 0 rfl csW _ (Blk.whole HXW29.out) Try.underlying41 rfl (by rw [HLW.out]; exact infoWelcome) ?_)
          refine (HPW29.out w29 (Below.refl _ _)).mono ?_
          rintro e w30 ⟨uW, rW, XW, rfl, ho, hX, hb⟩
          obtain ⟨lW, hlW⟩ : ∃ l, XW.length = l := ⟨_, rfl⟩
          obtain ⟨BW, dW, rfl, -, -, -, -⟩ := ho.shape' hlW
          have HYW := Lib.hid hX
          have HLnW := Lib.hid hlW
          have HB30 := Lib.hid (HB29.out.trans (hb.mono hz29))
          have HPK30 := Lib.hid (HPK29.out.below hb)
          have HXK30 := Lib.hid (HXK29.out.below hb HXK29.out.lt)
          have HOT30 := Lib.hid (HOT29.out.below hb (Nat.le_refl _))
          have HOP30 := Lib.hid (HOP29.out.below hb (Nat.le_refl _))
          have HOC30 := Lib.hid (HOC29.out.below hb (Nat.le_refl _))
          have HOI30 := Lib.hid (HOI29.out.below hb (Nat.le_refl _))
          have HOW30 := Lib.hid ho
          have hz30 := Nat.le_trans hz29 hb.size
          clear hb ho hX hlW HB29 HPK29 HXK29 HPW29 HXW29 HOT29 HOP29 HOC29 HOI29 hz29
          go_wp2_with (refine wpList_load_mid rfl 26 (.tmp 14) rfl gK 0 rfl csK _ (Blk.whole HXK30.out) Try.underlying26 rfl (by rw [HLK.out]; exact infoPacket) ?_)
          refine (HPK30.out w30 (Below.refl _ _)).mono ?_
          rintro e w31 ⟨uK, rK, XK, rfl, ho, hX, hb⟩
          obtain ⟨lK, hlK⟩ : ∃ l, XK.length = l := ⟨_, rfl⟩
          obtain ⟨BK, dK, rfl, -, -, -, -⟩ := ho.shape' hlK
          have HYK := Lib.hid hX
          have HLnK := Lib.hid hlK
          have HB31 := Lib.hid (HB30.out.trans (hb.mono hz30))
          have HOT31 := Lib.hid (HOT30.out.below hb (Nat.le_refl _))
          have HOP31 := Lib.hid (HOP30.out.below hb (Nat.le_refl _))
          have HOC31 := Lib.hid (HOC30.out.below hb (Nat.le_refl _))
          have HOI31 := Lib.hid (HOI30.out.below hb (Nat.le_refl _))
          have HOW31 := Lib.hid (HOW30.out.below hb (Nat.le_refl _))
          have HOK31 := Lib.hid ho
          have hz31 := Nat.le_trans hz30 hb.size
          clear hb ho hX hlK HB30 HPK30 HXK30 HOT30 HOP30 HOC30 HOI30 HOW30 hz30
          have HRs := Lib.hid (HR.out.below HB31.out)
          have HCT : Hid (IfT false (Calls Try.prog 18 #[.slice BT lT dT, .slice A n c] w31 fun e w' => e = .returned (.bool true) ∧ w31 = w')) := Lib.hid (fun hq => (same_any dT c HOT31.out.rd HRs.out HLnT.out HN.out).mono (by rintro e w' ⟨rfl, rfl⟩; rw [(by first | exact HYT.out hq | exact HYT.out trivial | exact HYT.out rfl : XT = bs), beq_self_eq_true]; exact ⟨rfl, rfl⟩))
          have HCP : Hid (IfT q2 (Calls Try.prog 18 #[.slice BP lP dP, .slice A n c] w31 fun e w' => e = .returned (.bool true) ∧ w31 = w')) := Lib.hid (fun hq => (same_any dP c HOP31.out.rd HRs.out HLnP.out HN.out).mono (by rintro e w' ⟨rfl, rfl⟩; rw [(by first | exact HYP.out hq | exact HYP.out trivial | exact HYP.out rfl : XP = bs), beq_self_eq_true]; exact ⟨rfl, rfl⟩))
          have HCC : Hid (IfT q3 (Calls Try.prog 18 #[.slice BC lC dC, .slice A n c] w31 fun e w' => e = .returned (.bool true) ∧ w31 = w')) := Lib.hid (fun hq => (same_any dC c HOC31.out.rd HRs.out HLnC.out HN.out).mono (by rintro e w' ⟨rfl, rfl⟩; rw [(by first | exact HYC.out hq | exact HYC.out trivial | exact HYC.out rfl : XC = bs), beq_self_eq_true]; exact ⟨rfl, rfl⟩))
          have HCI : Hid (IfT false (Calls Try.prog 18 #[.slice BI lI dI, .slice A n c] w31 fun e w' => e = .returned (.bool true) ∧ w31 = w')) := Lib.hid (fun hq => (same_any dI c HOI31.out.rd HRs.out HLnI.out HN.out).mono (by rintro e w' ⟨rfl, rfl⟩; rw [(by first | exact HYI.out hq | exact HYI.out trivial | exact HYI.out rfl : XI = bs), beq_self_eq_true]; exact ⟨rfl, rfl⟩))
          have HCW : Hid (IfT q5 (Calls Try.prog 18 #[.slice BW lW dW, .slice A n c] w31 fun e w' => e = .returned (.bool true) ∧ w31 = w')) := Lib.hid (fun hq => (same_any dW c HOW31.out.rd HRs.out HLnW.out HN.out).mono (by rintro e w' ⟨rfl, rfl⟩; rw [(by first | exact HYW.out hq | exact HYW.out trivial | exact HYW.out rfl : XW = bs), beq_self_eq_true]; exact ⟨rfl, rfl⟩))
          have HCK : Hid (IfT q6 (Calls Try.prog 18 #[.slice BK lK dK, .slice A n c] w31 fun e w' => e = .returned (.bool true) ∧ w31 = w')) := Lib.hid (fun hq => (same_any dK c HOK31.out.rd HRs.out HLnK.out HN.out).mono (by rintro e w' ⟨rfl, rfl⟩; rw [(by first | exact HYK.out hq | exact HYK.out trivial | exact HYK.out rfl : XK = bs), beq_self_eq_true]; exact ⟨rfl, rfl⟩))
          go_upto_region 34 with fail
          refine wp_region_lit ?_
          refine s_move (.bool false) (by kernel_rfl) (by kernel_rfl) ?_
          simp only [Act.put, List.setIfInBounds_toArray, List.set_cons_succ, List.set_cons_zero]
          refine s_not false (by kernel_rfl) (by kernel_rfl) ?_
          simp only [Act.put, List.setIfInBounds_toArray, List.set_cons_succ, List.set_cons_zero]
          refine s_move (.bool (!false)) (by kernel_rfl) (by kernel_rfl) ?_
          simp only [Act.put, List.setIfInBounds_toArray, List.set_cons_succ, List.set_cons_zero]
          refine wpList_or_call _ _ _ HCT.out (cfSame _) (by kernel_rfl) (fun v => by kernel_rfl) (fun v u => by kernel_rfl) (fun v u z => by kernel_rfl) (by kernel_rfl) (fun v => by kernel_rfl) (fun u => by kernel_rfl) (fun v => by kernel_rfl) (fun v u z => by kernel_rfl) (fun v u z => by kernel_rfl) ?_
          intro vT1 vT2 vT3
          simp only [Act.put, List.setIfInBounds_toArray, List.set_cons_succ, List.set_cons_zero]
          refine s_move (.bool true) (by kernel_rfl) (by kernel_rfl) ?_
          simp only [Act.put, List.setIfInBounds_toArray, List.set_cons_succ, List.set_cons_zero]
          refine s_move (.bool q2) (by kernel_rfl) (by kernel_rfl) ?_
          simp only [Act.put, List.setIfInBounds_toArray, List.set_cons_succ, List.set_cons_zero]
          refine s_not q2 (by kernel_rfl) (by kernel_rfl) ?_
          simp only [Act.put, List.setIfInBounds_toArray, List.set_cons_succ, List.set_cons_zero]
          refine s_move (.bool (!q2)) (by kernel_rfl) (by kernel_rfl) ?_
          simp only [Act.put, List.setIfInBounds_toArray, List.set_cons_succ, List.set_cons_zero]
          refine wpList_or_call _ _ _ HCP.out (cfSame _) (by kernel_rfl) (fun v => by kernel_rfl) (fun v u => by kernel_rfl) (fun v u z => by kernel_rfl) (by kernel_rfl) (fun v => by kernel_rfl) (fun u => by kernel_rfl) (fun v => by kernel_rfl) (fun v u z => by kernel_rfl) (fun v u z => by kernel_rfl) ?_
          intro vP1 vP2 vP3
          simp only [Act.put, List.setIfInBounds_toArray, List.set_cons_succ, List.set_cons_zero]
          refine s_pick (.bool true) (by kernel_rfl) (by kernel_rfl) (by kernel_rfl) ?_
          simp only [Act.put, List.setIfInBounds_toArray, List.set_cons_succ, List.set_cons_zero]
          refine s_move (.bool true) (by kernel_rfl) (by kernel_rfl) ?_
          simp only [Act.put, List.setIfInBounds_toArray, List.set_cons_succ, List.set_cons_zero]
          refine s_move (.bool q3) (by kernel_rfl) (by kernel_rfl) ?_
          simp only [Act.put, List.setIfInBounds_toArray, List.set_cons_succ, List.set_cons_zero]
          refine s_not q3 (by kernel_rfl) (by kernel_rfl) ?_
          simp only [Act.put, List.setIfInBounds_toArray, List.set_cons_succ, List.set_cons_zero]
          refine s_move (.bool (!q3)) (by kernel_rfl) (by kernel_rfl) ?_
          simp only [Act.put, List.setIfInBounds_toArray, List.set_cons_succ, List.set_cons_zero]
          refine wpList_or_call _ _ _ HCC.out (cfSame _) (by kernel_rfl) (fun v => by kernel_rfl) (fun v u => by kernel_rfl) (fun v u z => by kernel_rfl) (by kernel_rfl) (fun v => by kernel_rfl) (fun u => by kernel_rfl) (fun v => by kernel_rfl) (fun v u z => by kernel_rfl) (fun v u z => by kernel_rfl) ?_
          intro vC1 vC2 vC3
          simp only [Act.put, List.setIfInBounds_toArray, List.set_cons_succ, List.set_cons_zero]
          refine s_pick (.bool true) (by kernel_rfl) (by kernel_rfl) (by kernel_rfl) ?_
          simp only [Act.put, List.setIfInBounds_toArray, List.set_cons_succ, List.set_cons_zero]
          refine s_move (.bool true) (by kernel_rfl) (by kernel_rfl) ?_
          simp only [Act.put, List.setIfInBounds_toArray, List.set_cons_succ, List.set_cons_zero]
          refine s_move (.bool false) (by kernel_rfl) (by kernel_rfl) ?_
          simp only [Act.put, List.setIfInBounds_toArray, List.set_cons_succ, List.set_cons_zero]
          refine s_not false (by kernel_rfl) (by kernel_rfl) ?_
          simp only [Act.put, List.setIfInBounds_toArray, List.set_cons_succ, List.set_cons_zero]
          refine s_move (.bool (!false)) (by kernel_rfl) (by kernel_rfl) ?_
          simp only [Act.put, List.setIfInBounds_toArray, List.set_cons_succ, List.set_cons_zero]
          refine wpList_or_call _ _ _ HCI.out (cfSame _) (by kernel_rfl) (fun v => by kernel_rfl) (fun v u => by kernel_rfl) (fun v u z => by kernel_rfl) (by kernel_rfl) (fun v => by kernel_rfl) (fun u => by kernel_rfl) (fun v => by kernel_rfl) (fun v u z => by kernel_rfl) (fun v u z => by kernel_rfl) ?_
          intro vI1 vI2 vI3
          simp only [Act.put, List.setIfInBounds_toArray, List.set_cons_succ, List.set_cons_zero]
          refine s_pick (.bool true) (by kernel_rfl) (by kernel_rfl) (by kernel_rfl) ?_
          simp only [Act.put, List.setIfInBounds_toArray, List.set_cons_succ, List.set_cons_zero]
          refine s_move (.bool true) (by kernel_rfl) (by kernel_rfl) ?_
          simp only [Act.put, List.setIfInBounds_toArray, List.set_cons_succ, List.set_cons_zero]
          refine s_move (.bool q5) (by kernel_rfl) (by kernel_rfl) ?_
          simp only [Act.put, List.setIfInBounds_toArray, List.set_cons_succ, List.set_cons_zero]
          refine s_not q5 (by kernel_rfl) (by kernel_rfl) ?_
          simp only [Act.put, List.setIfInBounds_toArray, List.set_cons_succ, List.set_cons_zero]
          refine s_move (.bool (!q5)) (by kernel_rfl) (by kernel_rfl) ?_
          simp only [Act.put, List.setIfInBounds_toArray, List.set_cons_succ, List.set_cons_zero]
          refine wpList_or_call _ _ _ HCW.out (cfSame _) (by kernel_rfl) (fun v => by kernel_rfl) (fun v u => by kernel_rfl) (fun v u z => by kernel_rfl) (by kernel_rfl) (fun v => by kernel_rfl) (fun u => by kernel_rfl) (fun v => by kernel_rfl) (fun v u z => by kernel_rfl) (fun v u z => by kernel_rfl) ?_
          intro vW1 vW2 vW3
          simp only [Act.put, List.setIfInBounds_toArray, List.set_cons_succ, List.set_cons_zero]
          refine s_pick (.bool true) (by kernel_rfl) (by kernel_rfl) (by kernel_rfl) ?_
          simp only [Act.put, List.setIfInBounds_toArray, List.set_cons_succ, List.set_cons_zero]
          refine s_move (.bool true) (by kernel_rfl) (by kernel_rfl) ?_
          simp only [Act.put, List.setIfInBounds_toArray, List.set_cons_succ, List.set_cons_zero]
          refine s_move (.bool q6) (by kernel_rfl) (by kernel_rfl) ?_
          simp only [Act.put, List.setIfInBounds_toArray, List.set_cons_succ, List.set_cons_zero]
          refine s_not q6 (by kernel_rfl) (by kernel_rfl) ?_
          simp only [Act.put, List.setIfInBounds_toArray, List.set_cons_succ, List.set_cons_zero]
          refine s_move (.bool (!q6)) (by kernel_rfl) (by kernel_rfl) ?_
          simp only [Act.put, List.setIfInBounds_toArray, List.set_cons_succ, List.set_cons_zero]
          refine wpList_or_call _ _ _ HCK.out (cfSame _) (by kernel_rfl) (fun v => by kernel_rfl) (fun v u => by kernel_rfl) (fun v u z => by kernel_rfl) (by kernel_rfl) (fun v => by kernel_rfl) (fun u => by kernel_rfl) (fun v => by kernel_rfl) (fun v u z => by kernel_rfl) (fun v u z => by kernel_rfl) ?_
          intro vK1 vK2 vK3
          simp only [Act.put, List.setIfInBounds_toArray, List.set_cons_succ, List.set_cons_zero]
          refine s_pick (.bool true) (by kernel_rfl) (by kernel_rfl) (by kernel_rfl) ?_
          simp only [Act.put, List.setIfInBounds_toArray, List.set_cons_succ, List.set_cons_zero]
          go_wp2_with fail
          go_ret
          exact ⟨rfl, HB31.out⟩
end Go.Proofs.Ytloglpamnalmeaa
