/- CONTRACT: wire.many[Proposal]. -/
import Derived.Test.YtloglpamnalmeaaReadProp
import Derived.Test.YtloglpamnalmeaaPropL
namespace Go.Proofs.Ytloglpamnalmeaa
open Go.RowKit
set_option linter.unusedVariables false
set_option linter.unusedSimpArgs false

def PropT.v (t : PropT) : PropD := t.x
structure OwnPEl (w : World) (B : Nat) (t : PropT) : Prop where
  ok : t.x.Ok
  um : Own cI w B 3 (.slice t.A t.x.leaf.um.length t.c) t.x.leaf.um
  uml : t.x.leaf.um.length ≤ 300
theorem OwnPEl.kept {w w' : World} {B : Nat} {t : PropT} (h : OwnPEl w B t) {g : Nat} (hg : w.grownBy w' (some g)) (hlt : g < B) : OwnPEl w' B t := ⟨h.ok, h.um.kept hg (.inr (fun e => by have := h.um.lt _ e; omega)), h.uml⟩
theorem OwnPEl.below {w w' : World} {B C : Nat} {t : PropT} (h : OwnPEl w B t) (hb : Below C w w') (hC : w.heap.size ≤ C) : OwnPEl w' B t := ⟨h.ok, h.um.below hb hC, h.uml⟩
theorem OwnPEl.less {w : World} {B B' : Nat} {t : PropT} (h : OwnPEl w B t) (hB : B' ≤ B) : OwnPEl w B' t := ⟨h.ok, h.um.less hB, h.uml⟩
theorem OwnPEl.rd {w : World} {B : Nat} {t : PropT} (h : OwnPEl w B t) : ElP w w.heap.size t := ⟨h.ok, h.um.rd, h.uml⟩
theorem OwnPEl.far {w w' : World} {B C n : Nat} {v : Value} {us : List Value} {t : PropT} (h : OwnPEl w B t) (hr : w.ownsRow C 71 263 v n us) (hg : w.grownBy w' v.ownBlock) : OwnPEl w' B t :=
  ⟨h.ok, h.um.kept' hg (fun b e => rowS_unlike hr h.um (by decide) b e), h.uml⟩
theorem readPropT_any {w : World} {B g : Nat} {s : St} (hE : EyeS w B g s) (hy : s.1.length ≤ 10000000) :
    Calls Try.prog 81 #[.pointer (some ⟨g, 0, none⟩)] w fun e w' => ∃ t : PropT, e = .returned (.agg t.cells.toArray) ∧ OwnPEl w' w.heap.size t ∧ t.v = (pProp s).1 ∧ EyeS w' B g (pProp s).2 ∧ w.grownBy w' (some g) :=
  (readProp_any hE hy).mono fun e w' ⟨A, c, h1, h2, h3, h4⟩ => ⟨⟨(pProp s).1, A, c⟩, h1, ⟨by show (pProp s).1.Ok; rw [pProp]; exact prV_ok _, h2, by show (pProp s).1.leaf.um.length ≤ 300; rw [pProp]; rw [prV_leaf]; have := (prLeaf_ok (prK s) (prS5 s)).2; omega⟩, rfl, h3, h4⟩
theorem infoPropZ : (Try.prog.info? 71).map (fun i => (i.zero, i.size, i.bytes)) = some (some (.agg zPropC.toArray), 263, 328) := by kernel_rfl

structure OwnP (w : World) (B : Nat) (v : Value) (ts : List PropT) : Prop where
  row : w.ownsRow B 71 263 v ts.length (ts.flatMap PropT.cells)
  el : ∀ t ∈ ts, OwnPEl w B t
theorem OwnP.nil_ (w : World) (B : Nat) : OwnP w B (.slice none 0 0) [] := ⟨World.ownsRow_nil w B _ 263, (fun _ h => by cases h)⟩
theorem OwnP.kept {w w' : World} {B : Nat} {v : Value} {ts : List PropT} (h : OwnP w B v ts) {g : Nat} (hg : w.grownBy w' (some g)) (hlt : g < B) : OwnP w' B v ts :=
  ⟨rowS_kept' h.row hg (fun k e e2 => by cases e; have := World.ownsRow.lt h.row _ e2; omega), fun t ht => (h.el t ht).kept hg hlt⟩
theorem OwnP.below {w w' : World} {B C : Nat} {v : Value} {ts : List PropT} (h : OwnP w B v ts) (hb : Below C w w') (hC : w.heap.size ≤ C) : OwnP w' B v ts :=
  ⟨rowS_below h.row hb hC, fun t ht => (h.el t ht).below hb hC⟩
theorem OwnP.less {w : World} {B B' : Nat} {v : Value} {ts : List PropT} (h : OwnP w B v ts) (hB : B' ≤ B) : OwnP w B' v ts :=
  ⟨rowS_less h.row hB, fun t ht => (h.el t ht).less hB⟩
theorem OwnP.shape {w : World} {B : Nat} {v : Value} {ts : List PropT} (h : OwnP w B v ts) : ∃ A c, v = .slice A ts.length c ∧ RdPr w w.heap.size A ts := by
  obtain ⟨A, c, e, hr, -, -, -⟩ := rowS_shape h.row
  exact ⟨A, c, e, ⟨hr, fun t ht => (h.el t ht).rd⟩⟩
theorem PropTC_snoc (ts : List PropT) (t : PropT) : (ts ++ [t]).flatMap PropT.cells = ts.flatMap PropT.cells ++ t.cells := by rw [List.flatMap_append]; simp

set_option maxRecDepth 100000 in
set_option maxHeartbeats 2000000 in
theorem manyProp_any {w : World} {B g : Nat} {s : St} (hE : EyeS w B g s) (hy : s.1.length ≤ 10000000) :
    Calls Try.prog 86 #[.pointer (some ⟨g, 0, none⟩), .func (.func 81) #[] #[]] w fun e w' => ∃ v ts, e = .returned v ∧ OwnP w' w.heap.size v ts ∧ ts.map PropT.v = (pList pProp s).1 ∧ EyeS w' B g (pList pProp s).2 ∧ w.grownBy w' (some g) := by
  obtain ⟨i0, hi0, hz0, hz1, hz2⟩ := info_parts infoPropZ
  have HN := Lib.hid (numS_any hE 1 1 rfl (by omega) (by omega))
  obtain ⟨N, hN⟩ : ∃ N, N = (pNum 1 s).1 := ⟨_, rfl⟩
  obtain ⟨s0, hs0⟩ : ∃ s0, s0 = (pNum 1 s).2 := ⟨_, rfl⟩
  have e : pList pProp s = pMany pProp N s0 := by rw [hN, hs0]; rfl
  obtain ⟨L, hL⟩ : ∃ L, L = (pMany pProp N s0).1 := ⟨_, rfl⟩
  obtain ⟨sL, hsL⟩ : ∃ sL, sL = (pMany pProp N s0).2 := ⟨_, rfl⟩
  have hlt : N < 256 := by rw [hN]; exact pNum1_lt s
  have hl0 : s0.1.length ≤ 10000000 := by rw [hs0]; exact Nat.le_trans (pNum_le 1 s) hy
  have HLL := Lib.hid (show pMany pProp N s0 = (L, sL) by rw [hL, hsL])
  rw [e, ← hL, ← hsL]
  rw [← hN, ← hs0] at HN
  have hgl := hE.lt
  clear hN hs0 e hL hsL hE hy
  go_enter Try.func86, Try.ntmps86
  go_wp2_with fail
  refine HN.out.mono ?_
  rintro e w1 ⟨rfl, he1, hg1⟩
  have HE1 := Lib.hid he1
  have HG1 := Lib.hid hg1
  have hsz1 : w.heap.size ≤ w1.heap.size := hg1.size
  clear he1 hg1
  go_wp2_with fail
  go_loopw [5, 8] (fun rv iv wr => ∃ (k : Nat) (ts : List PropT) (t : St), k ≤ N ∧ iv = .int .i64 (k : Int) ∧ ts.length = k ∧ t.1.length ≤ 10000000 ∧ (L, sL) = (ts.map PropT.v ++ (pMany pProp (N - k) t).1, (pMany pProp (N - k) t).2) ∧ OwnP wr w.heap.size rv ts ∧ EyeS wr B g t ∧ w.grownBy wr (some g)) (fun _ iv _ => N - (intOf iv).toNat)
  case atStart => exact ⟨0, [], s0, by omega, rfl, rfl, hl0, by rw [Nat.sub_zero, List.map_nil, List.nil_append, HLL.out], OwnP.nil_ _ _, HE1.out, HG1.out⟩
  case round =>
    obtain ⟨k, ts, t, hk, rfl, hal, htl, hLt, ho, he, hg⟩ := hrel
    have HO := Lib.hid ho
    have HE := Lib.hid he
    have HG := Lib.hid hg
    have HLt := Lib.hid hLt
    have HAl := Lib.hid hal
    have hzr : w.heap.size ≤ wr.heap.size := hg.size
    obtain ⟨Ar, cr, e1, -⟩ := ho.shape
    rw [hal] at e1
    subst e1
    clear ho hg hLt hal
    by_cases hlt2 : k < N
    · have hlt' : (k : Int) < (N : Int) := by omega
      obtain ⟨bd, hbd⟩ : ∃ bd, bd = t.2 := ⟨_, rfl⟩
      have HBd := Lib.hid hbd
      obtain ⟨⟨A0, c0, h1, -, -⟩, -⟩ := he
      rw [← hbd] at h1
      have c1 := h1.cell 1 rfl
      clear h1 hbd
      cases bd with
      | true =>
        go_wp2_with fail
        go_ret
        have h := HLt.out
        rw [pMany_bad pProp _ HBd.out.symm] at h
        injection h with h1 h2
        subst h1 h2
        exact ⟨_, ts, rfl, HO.out, by simp, HE.out, HG.out⟩
      | false =>
        go_wp2_with fail
        refine (readPropT_any HE.out (by omega)).mono ?_
        rintro e w2 ⟨x, rfl, ho2, hv2, he2, hg2⟩
        have HE2 := Lib.hid he2
        have HG2 := Lib.hid (grownBy_trans HG.out hg2 (fun _ e => .inl e))
        have HO2 := Lib.hid (HO.out.kept hg2 (by omega))
        have HU2 := Lib.hid ho2
        have HV2 := Lib.hid hv2
        have hsz2 : w.heap.size ≤ w2.heap.size := HG2.out.size
        have HXl := Lib.hid (show x.cells.length = 263 from propC_len HU2.out.ok x.A x.c)
        have HX1 := Lib.hid (propC_one x.x x.A x.c)
        have HRow := Lib.hid (rowS_below HO2.out.row ((Below.refl w2.heap.size w2).alloc (Nat.le_refl _) (.cells x.cells.toArray 71)) (Nat.le_refl _))
        rw [HAl.out] at HRow
        clear he2 hg2 ho2 hv2
        go_wp2_with (first
          | (refine wpList_box_slice rfl 77 71 (.tmp 17) rfl i0 _ 263 x.cells.toArray rfl HXl.out (by omega) (by omega) Try.underlying77 hi0 hz0 hz1 zPropC_len ?_)
          | (at_builtin; refine wpList_append_row rfl (.tmp 14) (.tmp 18) 77 rfl 263 (by omega) w.heap.size 71 i0 _ 328 Try.underlying77 hi0 hz0 hz1 hz2 zPropC_len _ k (ts.flatMap PropT.cells) rfl HRow.out (w2.heap.size + 1) (some ⟨w2.heap.size, 0, none⟩) 1 1 x.cells rfl HXl.out (by omega) (rdV_new w2 71 x.cells) HX1.out (by simp only [maxLen]; omega) (by omega) (by rw [World.size_alloc]; omega) ?_; intro v3 w3 hown3 hg3 hbb3; have HO3 := Lib.hid hown3; have HG3 := Lib.hid hg3; have HB3 := Lib.hid hbb3; clear hown3 hg3 hbb3))
        have hb3 : Below w.heap.size w2 w3 := HB3.out w.heap.size w2 (Nat.le_refl _) ((Below.refl _ w2).alloc hsz2 _)
        have hum : ∀ {C : Nat} (t' : PropT), OwnPEl w2 C t' → OwnPEl w3 C t' := fun t' h =>
          (h.below ((Below.refl w2.heap.size w2).alloc (Nat.le_refl _) (.cells x.cells.toArray 71)) (Nat.le_refl _)).far HRow.out HG3.out.by_
        refine ⟨⟨k + 1, ts ++ [x], (pProp t).2, by omega, by congr 1, by rw [List.length_append, HAl.out]; rfl, Nat.le_trans (pProp_le t) htl, ?_, ⟨?_, ?_⟩, eye_low HE2.out hb3 hgl, grown_below HG2.out hb3⟩, by show N - ((k : Int) + 1).toNat < N - (k : Int).toNat; omega⟩
        · have h := HLt.out
          rw [show N - k = (N - (k + 1)) + 1 by omega, pMany_succ pProp _ HBd.out.symm, ← HV2.out] at h
          rw [h, List.map_append, List.append_assoc]; rfl
        · rw [PropTC_snoc, List.length_append, HAl.out]; exact HO3.out
        · intro t' ht'
          rcases List.mem_append.1 ht' with h | h
          · exact hum t' (HO2.out.el t' h)
          · obtain rfl := List.mem_singleton.1 h; exact hum _ (HU2.out.less hzr)
    · obtain rfl : k = N := by omega
      clear he
      go_wp2_with fail
      go_ret
      have h := HLt.out
      rw [Nat.sub_self] at h
      injection h with h1 h2
      subst h1 h2
      exact ⟨_, ts, rfl, HO.out, by simp [pMany], HE.out, HG.out⟩
end Go.Proofs.Ytloglpamnalmeaa
