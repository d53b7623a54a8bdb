/- CONTRACTS: wire.many[[]byte], wire.readStep. -/
import Derived.Test.YtloglpamnalmeaaReadProp
import Derived.Test.YtloglpamnalmeaaCommP
namespace Go.Proofs.Ytloglpamnalmeaa
open Go.RowKit
set_option linter.unusedVariables false
set_option linter.unusedSimpArgs false

def pRow (s : St) : List (BitVec 8) × St := pTk (pNum 2 s).1 (pNum 2 s).2
theorem pRow_le (s : St) : (pRow s).2.1.length ≤ s.1.length := by
  have h1 := pNum_le 2 s
  have h2 := pTk_le (pNum 2 s).1 (pNum 2 s).2
  rw [pRow]
  omega
theorem pRow_len (s : St) : (pRow s).1.length ≤ 65535 := by
  rw [pRow, pTk_len]
  have h : (pNum 2 s).1 < 256 ^ 2 := beVal_lt 2 _ (tkO_len _ _)
  omega
theorem rowS_any {w : World} {B g : Nat} {s : St} (hE : EyeS w B g s) (hy : s.1.length ≤ 100000000) :
    Calls Try.prog 61 #[.pointer (some ⟨g, 0, none⟩)] w fun e w' => ∃ v, e = .returned v ∧ Own b8 w' w.heap.size 5 v (pRow s).1 ∧ EyeS w' B g (pRow s).2 ∧ w.grownBy w' (some g) := rowE_any hE hy
theorem infoSl : (Try.prog.info? 24).map (fun i => (i.zero, i.size, i.bytes)) = some (some (.slice none 0 0), 1, 24) := by kernel_rfl
/-- rows that the call owns -/
structure OwnR (w : World) (B : Nat) (v : Value) (rs : List RowT) : Prop where
  row : w.ownsRow B 24 1 v rs.length (rs.flatMap RowT.cells)
  xs : ∀ r ∈ rs, Own b8 w B 5 r.cell r.xs ∧ r.xs.length ≤ 65535
theorem OwnR.nil_ (w : World) (B : Nat) : OwnR w B (.slice none 0 0) [] := ⟨World.ownsRow_nil w B _ 1, (fun _ h => by cases h)⟩
theorem OwnR.kept {w w' : World} {B : Nat} {v : Value} {rs : List RowT} (h : OwnR w B v rs) {g : Nat} (hg : w.grownBy w' (some g)) (hlt : g < B) : OwnR w' B v rs :=
  ⟨rowS_kept' h.row hg (fun k e e2 => by cases e; have := World.ownsRow.lt h.row _ e2; omega), fun r hr => ⟨(h.xs r hr).1.kept hg (.inr (fun e => by have := (h.xs r hr).1.lt _ e; omega)), (h.xs r hr).2⟩⟩
theorem OwnR.below {w w' : World} {B C : Nat} {v : Value} {rs : List RowT} (h : OwnR w B v rs) (hb : Below C w w') (hC : w.heap.size ≤ C) : OwnR w' B v rs :=
  ⟨rowS_below h.row hb hC, fun r hr => ⟨(h.xs r hr).1.below hb hC, (h.xs r hr).2⟩⟩
theorem OwnR.less {w : World} {B B' : Nat} {v : Value} {rs : List RowT} (h : OwnR w B v rs) (hB : B' ≤ B) : OwnR w B' v rs :=
  ⟨rowS_less h.row hB, fun r hr => ⟨(h.xs r hr).1.less hB, (h.xs r hr).2⟩⟩
theorem OwnR.shape {w : World} {B : Nat} {v : Value} {rs : List RowT} (h : OwnR w B v rs) : ∃ A c, v = .slice A rs.length c ∧ RdR w w.heap.size A rs := by
  obtain ⟨A, c, e, hr, -, -, -⟩ := rowS_shape h.row
  exact ⟨A, c, e, ⟨hr, fun r hr => ⟨(h.xs r hr).1.rd, by have := (h.xs r hr).2; omega⟩⟩⟩
theorem rowsC_snoc (rs : List RowT) (r : RowT) : (rs ++ [r]).flatMap RowT.cells = rs.flatMap RowT.cells ++ [r.cell] := by rw [List.flatMap_append]; simp [RowT.cells]
set_option maxRecDepth 100000 in
set_option maxHeartbeats 2000000 in
theorem manyRow_any {w : World} {B g : Nat} {s : St} (hE : EyeS w B g s) (hy : s.1.length ≤ 10000000) :
    Calls Try.prog 112 #[.pointer (some ⟨g, 0, none⟩), .func (.func 61) #[] #[]] w fun e w' => ∃ v rs, e = .returned v ∧ OwnR w' w.heap.size v rs ∧ rs.map (·.xs) = (pList pRow s).1 ∧ EyeS w' B g (pList pRow s).2 ∧ w.grownBy w' (some g) := by
  obtain ⟨i0, hi0, hz0, hz1, hz2⟩ := info_parts infoSl
  have HN := Lib.hid (numS_any hE 1 1 rfl (by omega) (by omega))
  obtain ⟨N, hN⟩ : ∃ N, N = (pNum 1 s).1 := ⟨_, rfl⟩
  obtain ⟨s0, hs0⟩ : ∃ s0, s0 = (pNum 1 s).2 := ⟨_, rfl⟩
  have e : pList pRow s = pMany pRow N s0 := by rw [hN, hs0]; rfl
  obtain ⟨L, hL⟩ : ∃ L, L = (pMany pRow N s0).1 := ⟨_, rfl⟩
  obtain ⟨sL, hsL⟩ : ∃ sL, sL = (pMany pRow N s0).2 := ⟨_, rfl⟩
  have hlt : N < 256 := by rw [hN]; exact pNum1_lt s
  have hl0 : s0.1.length ≤ 10000000 := by rw [hs0]; exact Nat.le_trans (pNum_le 1 s) hy
  have HLL := Lib.hid (show pMany pRow N s0 = (L, sL) by rw [hL, hsL])
  rw [e, ← hL, ← hsL]
  rw [← hN, ← hs0] at HN
  have hgl := hE.lt
  clear hN hs0 e hL hsL hE hy
  go_enter Try.func112, Try.ntmps112
  go_wp2_with fail
  refine HN.out.mono ?_
  rintro e w1 ⟨rfl, he1, hg1⟩
  have HE1 := Lib.hid he1
  have HG1 := Lib.hid hg1
  have hsz1 : w.heap.size ≤ w1.heap.size := hg1.size
  clear he1 hg1
  go_wp2_with fail
  go_loopw [5, 8] (fun rv iv wr => ∃ (k : Nat) (rs : List RowT) (t : St), k ≤ N ∧ iv = .int .i64 (k : Int) ∧ rs.length = k ∧ t.1.length ≤ 10000000 ∧ (L, sL) = (rs.map (·.xs) ++ (pMany pRow (N - k) t).1, (pMany pRow (N - k) t).2) ∧ OwnR wr w.heap.size rv rs ∧ EyeS wr B g t ∧ w.grownBy wr (some g)) (fun _ iv _ => N - (intOf iv).toNat)
  case atStart => exact ⟨0, [], s0, by omega, rfl, rfl, hl0, by rw [Nat.sub_zero, List.map_nil, List.nil_append, HLL.out], OwnR.nil_ _ _, HE1.out, HG1.out⟩
  case round =>
    obtain ⟨k, rs, t, hk, rfl, hal, htl, hLt, ho, he, hg⟩ := hrel
    have HO := Lib.hid ho
    have HE := Lib.hid he
    have HG := Lib.hid hg
    have HLt := Lib.hid hLt
    have HAl := Lib.hid hal
    have hzr : w.heap.size ≤ wr.heap.size := hg.size
    obtain ⟨Ar, cr, e1, -⟩ := ho.shape
    rw [hal] at e1
    subst e1
    clear ho hg hLt hal
    by_cases hlt2 : k < N
    · have hlt' : (k : Int) < (N : Int) := by omega
      obtain ⟨bd, hbd⟩ : ∃ bd, bd = t.2 := ⟨_, rfl⟩
      have HBd := Lib.hid hbd
      obtain ⟨⟨A0, c0, h1, -, -⟩, -⟩ := he
      rw [← hbd] at h1
      have c1 := h1.cell 1 rfl
      clear h1 hbd
      cases bd with
      | true =>
        go_wp2_with fail
        go_ret
        have h := HLt.out
        rw [pMany_bad pRow _ HBd.out.symm] at h
        injection h with h1 h2
        subst h1 h2
        exact ⟨_, rs, rfl, HO.out, by simp, HE.out, HG.out⟩
      | false =>
        go_wp2_with fail
        refine (rowS_any HE.out (by omega)).mono ?_
        rintro e w2 ⟨v2, rfl, ho2, he2, hg2⟩
        have hpl := pRow_len t
        obtain ⟨x, hxx⟩ : ∃ x, x = (pRow t).1 := ⟨_, rfl⟩
        rw [← hxx] at ho2 hpl
        obtain ⟨A2, c2, rfl, -, -, -, -⟩ := ho2.shape
        have HE2 := Lib.hid he2
        have HG2 := Lib.hid (grownBy_trans HG.out hg2 (fun _ e => .inl e))
        have HO2 := Lib.hid (HO.out.kept hg2 (by omega))
        have HU2 := Lib.hid ho2
        have hsz2 : w.heap.size ≤ w2.heap.size := HG2.out.size
        have HXx := Lib.hid hxx
        obtain ⟨l, hl⟩ : ∃ l, l = x.length := ⟨_, rfl⟩
        rw [← hl]
        have HLx := Lib.hid hl
        have HRow := Lib.hid (rowS_below HO2.out.row ((Below.refl w2.heap.size w2).alloc (Nat.le_refl _) (.cells #[.slice A2 l c2] 24)) (Nat.le_refl _))
        rw [HAl.out] at HRow
        clear he2 hg2 ho2 hxx hl
        go_wp2_with (at_builtin; refine wpList_append_row rfl (.tmp 14) (.tmp 18) 142 rfl 1 (by omega) w.heap.size 24 i0 _ 24 Try.underlying142 hi0 hz0 hz1 hz2 rfl _ k (rs.flatMap RowT.cells) rfl HRow.out (w2.heap.size + 1) (some ⟨w2.heap.size, 0, none⟩) 1 1 [.slice A2 l c2] rfl rfl (by omega) (rdV_new w2 24 [.slice A2 l c2]) (by intro u hu; rw [List.mem_singleton.1 hu]; rfl) (by simp only [maxLen]; omega) (by omega) (by rw [World.size_alloc]; omega) ?_; intro v3 w3 hown3 hg3 hbb3; have HO3 := Lib.hid hown3; have HG3 := Lib.hid hg3; have HB3 := Lib.hid hbb3; clear hown3 hg3 hbb3)
        have hb3 : Below w.heap.size w2 w3 := HB3.out w.heap.size w2 (Nat.le_refl _) ((Below.refl _ w2).alloc hsz2 _)
        have hum : ∀ (r : RowT), Own b8 w2 w.heap.size 5 r.cell r.xs → Own b8 w3 w.heap.size 5 r.cell r.xs := fun r h =>
          (h.alloc (.cells #[.slice A2 l c2] 24)).kept' HG3.out.by_ (fun b e => rowS_unlike HRow.out (h.alloc (.cells #[.slice A2 l c2] 24)) (by decide) b e)
        have hcell : (⟨x, A2, c2⟩ : RowT).cell = .slice A2 l c2 := by unfold RowT.cell; rw [← HLx.out]
        refine ⟨⟨k + 1, rs ++ [⟨x, A2, c2⟩], (pRow t).2, by omega, by congr 1, by rw [List.length_append, HAl.out]; rfl, Nat.le_trans (pRow_le t) htl, ?_, ⟨?_, ?_⟩, eye_low HE2.out hb3 hgl, grown_below HG2.out hb3⟩, by show N - ((k : Int) + 1).toNat < N - (k : Int).toNat; omega⟩
        · have h := HLt.out
          rw [show N - k = (N - (k + 1)) + 1 by omega, pMany_succ pRow _ HBd.out.symm, ← HXx.out] at h
          rw [h, List.map_append, List.append_assoc]; rfl
        · rw [rowsC_snoc, List.length_append, HAl.out, hcell]; exact HO3.out
        · intro r hr
          rcases List.mem_append.1 hr with h | h
          · exact ⟨hum r (HO2.out.xs r h).1, (HO2.out.xs r h).2⟩
          · obtain rfl := List.mem_singleton.1 h
            refine ⟨hum _ ?_, hpl⟩
            unfold RowT.cell
            exact HU2.out.less hzr
    · obtain rfl : k = N := by omega
      clear he
      go_wp2_with fail
      go_ret
      have h := HLt.out
      rw [Nat.sub_self] at h
      injection h with h1 h2
      subst h1 h2
      exact ⟨_, rs, rfl, HO.out, by simp [pMany], HE.out, HG.out⟩
end Go.Proofs.Ytloglpamnalmeaa
