/- CONTRACT: wire.many[Node] with readNode. -/
import Derived.Test.YtloglpamnalmeaaReadNodeB
import Derived.Great.BuildSlice
namespace Go.Proofs.Ytloglpamnalmeaa
open Go.RowKit
set_option linter.unusedVariables false
set_option linter.unusedSimpArgs false

theorem fill_one {s : Nat} (hs : 0 < s) (v : Value) (hv : v.cells.size = s) (cells : Array Value) (hc : cells.size = s) : Instr.fill (fun i => some (i * s, s)) cells [(0, v)] = some v.cells := by
  obtain ⟨r, hr, hsz, hk⟩ := Great.fill_dense hs [v] 0 cells (fun u hu => by simp at hu; subst hu; exact hv) (by simp [hc])
  have e : r = v.cells := by
    apply Array.ext_getElem?
    intro k
    rw [hk k]
    simp only [Nat.zero_mul, List.length_cons, List.length_nil, Nat.zero_add, Nat.one_mul, Nat.zero_le, true_and, Nat.sub_zero]
    by_cases h : k < s
    · rw [if_pos h, Nat.div_eq_of_lt h, Nat.mod_eq_of_lt h]; rfl
    · rw [if_neg h, Array.getElem?_eq_none (by omega), Array.getElem?_eq_none (by omega)]
  rw [← e, ← hr]; rfl
/-- a slice literal of one struct -/
theorem wpList_box_slice {P : Program} {ops : Array Oper} {rest : List Oper} {o : Oper} {a : Act} {w : World} {Q : Exit → Act → World → Prop} (hg : o.guard = none) (t e : TypeId) (x : Operand) (ho : o.op = .buildSlice t 1 #[(0, x)])
    (ie : TypeInfo) (z : Value) (K : Nat) (cells : Array Value) (hx : a.eval x = .agg cells) (hK : cells.size = K) (hK0 : 0 < K) (hKs : K ≤ 1000)
    (hu : P.underlying t = some (.slice e)) (hie : P.info? e = some ie) (hz : ie.zero = some z) (hsz : ie.size = K) (hzs : z.cells.size = K)
    (h : wpList P ops Q rest (a.put o.dst (.slice (some ⟨w.heap.size, 0, none⟩) 1 1)) (w.alloc (.cells cells e))) : wpList P ops Q (o :: rest) a w := by
  refine wpList_buildSlice hg t e 1 #[(0, x)] ho cells ie z hu hie hz (by rw [hsz]; omega) (by rw [hsz]; omega) ?_ h
  rw [hsz]
  rw [show (#[(0, x)].map fun (i, x) => (i, a.eval x)).toList = [(0, .agg cells)] by simp [hx]]
  exact fill_one hK0 (.agg cells) hK _ (by simp)
theorem pNode_nameE (s : St) : (pNode s).1.name = ((pNum 1 (nodeS1 s)).1 : Int) := by rw [pNode]
theorem pNode_keyE (s : St) : (pNode s).1.key = (pTk 32 (nodeS2 s)).1 := by rw [pNode]
theorem pNode_signE (s : St) : (pNode s).1.sign = (pTk 32 (nodeS3 s)).1 := by rw [pNode]
theorem pNode_parE (s : St) : (pNode s).1.par = (pTk 32 (nodeS4 s)).1 := by rw [pNode]
theorem pNode_umE (s : St) : (pNode s).1.um = (pList pOne (nodeS5 s)).1 := by rw [pNode]
theorem pOne_wf (s : St) : (Lit.int .i64 (pOne s).1).wf = true := by
  rw [pOne]
  have h := pNum1_lt s
  generalize (pNum 1 s).1 = n at h ⊢
  exact wf_small (by omega)
theorem pNode_ok (s : St) : (pNode s).1.Ok := by
  refine ⟨by rw [pNode_keyE]; exact pTk_len _ _, by rw [pNode_signE]; exact pTk_len _ _, by rw [pNode_parE]; exact pTk_len _ _, ?_, ?_⟩
  · rw [pNode_nameE]
    have h := pNum1_lt (nodeS1 s)
    generalize (pNum 1 (nodeS1 s)).1 = n at h ⊢
    exact wf_small (by omega)
  · rw [pNode_umE]
    exact pMany_all pOne (fun z => (Lit.int .i64 z).wf = true) pOne_wf _ _
theorem pNode_um (s : St) : (pNode s).1.um.length ≤ 255 := by rw [pNode_umE]; exact pList_len pOne _
theorem infoNodeZ : (Try.prog.info? 50).map (fun i => (i.zero, i.size, i.bytes)) = some (some (.agg zTN.toArray), 99, 136) := by kernel_rfl
/-- nodes that the call owns -/
structure OwnT (w : World) (B : Nat) (v : Value) (ts : List TN) : Prop where
  row : w.ownsRow B 50 99 v ts.length (tnC ts)
  ok : ∀ t ∈ ts, t.x.Ok
  um : ∀ t ∈ ts, Own cI w B 3 (.slice t.A t.x.um.length t.c) t.x.um
theorem OwnT.nil_ (w : World) (B : Nat) : OwnT w B (.slice none 0 0) [] := ⟨World.ownsRow_nil w B _ 99, (fun _ h => by cases h), (fun _ h => by cases h)⟩
theorem OwnT.kept {w w' : World} {B : Nat} {v : Value} {ts : List TN} (h : OwnT w B v ts) {g : Nat} (hg : w.grownBy w' (some g)) (hlt : g < B) : OwnT w' B v ts :=
  ⟨rowS_kept' h.row hg (fun k e e2 => by cases e; have := World.ownsRow.lt h.row _ e2; omega), h.ok, fun t ht => (h.um t ht).kept hg (.inr (fun e => by have := (h.um t ht).lt _ e; omega))⟩
theorem OwnT.below {w w' : World} {B C : Nat} {v : Value} {ts : List TN} (h : OwnT w B v ts) (hb : Below C w w') (hC : w.heap.size ≤ C) : OwnT w' B v ts :=
  ⟨rowS_below h.row hb hC, h.ok, fun t ht => (h.um t ht).below hb hC⟩
theorem OwnT.less {w : World} {B B' : Nat} {v : Value} {ts : List TN} (h : OwnT w B v ts) (hB : B' ≤ B) : OwnT w B' v ts :=
  ⟨rowS_less h.row hB, h.ok, fun t ht => (h.um t ht).less hB⟩
theorem OwnT.shape {w : World} {B : Nat} {v : Value} {ts : List TN} (h : OwnT w B v ts) : ∃ A c, v = .slice A ts.length c ∧ RdT w w.heap.size A ts ∧ (A = none → c = 0) ∧ ts.length ≤ c ∧ c ≤ maxLen := by
  obtain ⟨A, c, e, hr, h1, h2, h3⟩ := rowS_shape h.row
  exact ⟨A, c, e, ⟨hr, h.ok, fun t ht => (h.um t ht).rd⟩, h1, h2, h3⟩
theorem ownT_rd {w : World} {B : Nat} {A : Option Addr} {n c : Nat} {ts : List TN} (h : OwnT w B (.slice A n c) ts) : RdT w w.heap.size A ts := by
  obtain ⟨A', c', e, hr, -, -, -⟩ := h.shape
  cases e
  exact hr
theorem tnC_snoc (ts : List TN) (t : TN) : tnC (ts ++ [t]) = tnC ts ++ t.cells := by unfold tnC; rw [List.flatMap_append]; simp

set_option maxRecDepth 100000 in
set_option maxHeartbeats 2000000 in
theorem manyNode_any {w : World} {B g : Nat} {s : St} (hE : EyeS w B g s) (hy : s.1.length ≤ 10000000) :
    Calls Try.prog 71 #[.pointer (some ⟨g, 0, none⟩), .func (.func 72) #[] #[]] w fun e w' => ∃ v ts, e = .returned v ∧ OwnT w' w.heap.size v ts ∧ ts.map (·.x) = (pList pNode s).1 ∧ EyeS w' B g (pList pNode s).2 ∧ w.grownBy w' (some g) := by
  obtain ⟨i0, hi0, hz0, hz1, hz2⟩ := info_parts infoNodeZ
  have HN := Lib.hid (numS_any hE 1 1 rfl (by omega) (by omega))
  obtain ⟨N, hN⟩ : ∃ N, N = (pNum 1 s).1 := ⟨_, rfl⟩
  obtain ⟨s0, hs0⟩ : ∃ s0, s0 = (pNum 1 s).2 := ⟨_, rfl⟩
  have e : pList pNode s = pMany pNode N s0 := by rw [hN, hs0]; rfl
  obtain ⟨L, hL⟩ : ∃ L, L = (pMany pNode N s0).1 := ⟨_, rfl⟩
  obtain ⟨sL, hsL⟩ : ∃ sL, sL = (pMany pNode N s0).2 := ⟨_, rfl⟩
  have hlt : N < 256 := by rw [hN]; exact pNum1_lt s
  have hl0 : s0.1.length ≤ 10000000 := by rw [hs0]; exact Nat.le_trans (pNum_le 1 s) hy
  have HLL := Lib.hid (show pMany pNode N s0 = (L, sL) by rw [hL, hsL])
  rw [e, ← hL, ← hsL]
  rw [← hN, ← hs0] at HN
  have hgl := hE.lt
  clear hN hs0 e hL hsL hE hy
  go_enter Try.func71, Try.ntmps71
  go_wp2_with fail
  refine HN.out.mono ?_
  rintro e w1 ⟨rfl, he1, hg1⟩
  have HE1 := Lib.hid he1
  have HG1 := Lib.hid hg1
  have hsz1 : w.heap.size ≤ w1.heap.size := hg1.size
  clear he1 hg1
  go_wp2_with fail
  go_loopw [5, 8] (fun rv iv wr => ∃ (k : Nat) (ts : List TN) (t : St), k ≤ N ∧ iv = .int .i64 (k : Int) ∧ ts.length = k ∧ t.1.length ≤ 10000000 ∧ (L, sL) = (ts.map (·.x) ++ (pMany pNode (N - k) t).1, (pMany pNode (N - k) t).2) ∧ OwnT wr w.heap.size rv ts ∧ EyeS wr B g t ∧ w.grownBy wr (some g)) (fun _ iv _ => N - (intOf iv).toNat)
  case atStart => exact ⟨0, [], s0, by omega, rfl, rfl, hl0, by rw [Nat.sub_zero, List.map_nil, List.nil_append, HLL.out], OwnT.nil_ _ _, HE1.out, HG1.out⟩
  case round =>
    obtain ⟨k, ts, t, hk, rfl, hal, htl, hLt, ho, he, hg⟩ := hrel
    have HO := Lib.hid ho
    have HE := Lib.hid he
    have HG := Lib.hid hg
    have HLt := Lib.hid hLt
    have HAl := Lib.hid hal
    have hzr : w.heap.size ≤ wr.heap.size := hg.size
    obtain ⟨Ar, cr, e1, -, -, -, -⟩ := ho.shape
    rw [hal] at e1
    subst e1
    clear ho hg hLt hal
    by_cases hlt2 : k < N
    · have hlt' : (k : Int) < (N : Int) := by omega
      obtain ⟨bd, hbd⟩ : ∃ bd, bd = t.2 := ⟨_, rfl⟩
      have HBd := Lib.hid hbd
      obtain ⟨⟨A0, c0, h1, -, -⟩, -⟩ := he
      rw [← hbd] at h1
      have c1 := h1.cell 1 rfl
      clear h1 hbd
      cases bd with
      | true =>
        go_wp2_with fail
        go_ret
        have h := HLt.out
        rw [pMany_bad pNode _ HBd.out.symm] at h
        injection h with h1 h2
        subst h1 h2
        exact ⟨_, ts, rfl, HO.out, by simp, HE.out, HG.out⟩
      | false =>
        go_wp2_with fail
        refine (readNode_any HE.out (by omega)).mono ?_
        rintro e w2 ⟨A2, c2, rfl, ho2, he2, hg2⟩
        have HE2 := Lib.hid he2
        have HG2 := Lib.hid (grownBy_trans HG.out hg2 (fun _ e => .inl e))
        have HO2 := Lib.hid (HO.out.kept hg2 (by omega))
        have HU2 := Lib.hid ho2
        have hsz2 : w.heap.size ≤ w2.heap.size := HG2.out.size
        have hx := pNode_ok t
        have HX := Lib.hid hx
        have HXl := Lib.hid (nodeC_len hx A2 c2)
        have HX1 := Lib.hid (nodeC_one (pNode t).1 A2 c2)
        clear he2 hg2 ho2 hx
        obtain ⟨x, hxx⟩ : ∃ x, x = (pNode t).1 := ⟨_, rfl⟩
        rw [← hxx] at HX HXl HX1 HU2 ⊢
        have HXx := Lib.hid hxx
        clear hxx
        have HRow := Lib.hid (rowS_below HO2.out.row ((Below.refl w2.heap.size w2).alloc (Nat.le_refl _) (.cells (nodeC x A2 c2).toArray 50)) (Nat.le_refl _))
        rw [HAl.out] at HRow
        go_wp2_with (first
          | (refine wpList_box_slice rfl 54 50 (.tmp 17) rfl i0 _ 99 (nodeC x A2 c2).toArray rfl HXl.out (by omega) (by omega) Try.underlying54 hi0 hz0 hz1 zTN_len ?_)
          | (at_builtin; refine wpList_append_row rfl (.tmp 14) (.tmp 18) 54 rfl 99 (by omega) w.heap.size 50 i0 _ 136 Try.underlying54 hi0 hz0 hz1 hz2 zTN_len _ k (tnC ts) rfl HRow.out (w2.heap.size + 1) (some ⟨w2.heap.size, 0, none⟩) 1 1 (nodeC x A2 c2) rfl HXl.out (by omega) (rdV_new w2 50 (nodeC x A2 c2)) HX1.out (by simp only [maxLen]; omega) (by omega) (by rw [World.size_alloc]; omega) ?_; intro v3 w3 hown3 hg3 hbb3; have HO3 := Lib.hid hown3; have HG3 := Lib.hid hg3; have HB3 := Lib.hid hbb3; clear hown3 hg3 hbb3))
        have hb3 : Below w.heap.size w2 w3 := HB3.out w.heap.size w2 (Nat.le_refl _) ((Below.refl _ w2).alloc hsz2 _)
        have hum : ∀ (t' : TN), Own cI w2 w.heap.size 3 (.slice t'.A t'.x.um.length t'.c) t'.x.um → Own cI w3 w.heap.size 3 (.slice t'.A t'.x.um.length t'.c) t'.x.um := fun t' h =>
          (h.alloc (.cells (nodeC x A2 c2).toArray 50)).kept' HG3.out.by_ (fun b e => rowS_unlike HRow.out (h.alloc (.cells (nodeC x A2 c2).toArray 50)) (by decide) b e)
        refine ⟨⟨k + 1, ts ++ [⟨x, A2, c2⟩], (pNode t).2, by omega, by congr 1, by rw [List.length_append, HAl.out]; rfl, Nat.le_trans (pNode_le t) htl, ?_, ⟨?_, ?_, ?_⟩, eye_low HE2.out hb3 hgl, grown_below HG2.out hb3⟩, by show N - ((k : Int) + 1).toNat < N - (k : Int).toNat; omega⟩
        · have h := HLt.out
          rw [show N - k = (N - (k + 1)) + 1 by omega, pMany_succ pNode _ HBd.out.symm, ← HXx.out] at h
          rw [h, List.map_append, List.append_assoc]; rfl
        · rw [tnC_snoc, List.length_append, HAl.out]; exact HO3.out
        · intro t' ht'
          rcases List.mem_append.1 ht' with h | h
          · exact HO2.out.ok t' h
          · obtain rfl := List.mem_singleton.1 h; exact HX.out
        · intro t' ht'
          rcases List.mem_append.1 ht' with h | h
          · exact hum t' (HO2.out.um t' h)
          · obtain rfl := List.mem_singleton.1 h; exact hum _ (HU2.out.less hzr)
    · obtain rfl : k = N := by omega
      clear he
      go_wp2_with fail
      go_ret
      have h := HLt.out
      rw [Nat.sub_self] at h
      injection h with h1 h2
      subst h1 h2
      exact ⟨_, ts, rfl, HO.out, by simp [pMany], HE.out, HG.out⟩
end Go.Proofs.Ytloglpamnalmeaa
