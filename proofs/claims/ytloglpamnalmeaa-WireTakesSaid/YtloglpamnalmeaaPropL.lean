/- Proposals in a row. CONTRACT: wire.list[Proposal]. -/
import Derived.Test.YtloglpamnalmeaaStepD
namespace Go.Proofs.Ytloglpamnalmeaa
open Go.RowKit
set_option linter.unusedVariables false
set_option linter.unusedSimpArgs false

/-- a proposal in memory -/
structure PropT where
  x : PropD
  A : Option Addr
  c : Nat
def PropT.cells (t : PropT) : List Value := propC t.x t.A t.c
structure ElP (w : World) (B : Nat) (t : PropT) : Prop where
  ok : t.x.Ok
  um : Rd cI w B t.A t.x.leaf.um
  uml : t.x.leaf.um.length ≤ 300
theorem ElP.below {w w' : World} {B : Nat} {t : PropT} (h : ElP w B t) (hb : Below B w w') : ElP w' B t := ⟨h.ok, h.um.below hb, h.uml⟩
def zPropC : List Value := propC zProp none 0
theorem zPropC_len : zPropC.length = 263 := by decide +kernel

def propsB (ts : List PropT) : List (BitVec 8) := ts.flatMap fun t => propB t.x
def propsBad (ts : List PropT) : Bool := ts.any fun t => propBad t.x
theorem propsB_succ (ts : List PropT) (k : Nat) (t : PropT) (h : ts[k]? = some t) : propsB (ts.take (k + 1)) = propsB (ts.take k) ++ propB t.x := by
  unfold propsB; rw [List.take_add_one, List.flatMap_append, h]; simp
theorem propsBad_succ (ts : List PropT) (k : Nat) (t : PropT) (h : ts[k]? = some t) : propsBad (ts.take (k + 1)) = (propsBad (ts.take k) || propBad t.x) := by
  unfold propsBad; rw [List.take_add_one, List.any_append, h]; simp
theorem propsBad_take (ts : List PropT) (k : Nat) (h : propsBad (ts.take k) = true) : propsBad ts = true := by
  unfold propsBad at *; rw [List.any_eq_true] at *
  obtain ⟨x, hx, h⟩ := h
  exact ⟨x, List.mem_of_mem_take hx, h⟩

structure RdPr (w : World) (B : Nat) (A : Option Addr) (ts : List PropT) : Prop where
  row : RdV w B A (ts.flatMap PropT.cells)
  el : ∀ t ∈ ts, ElP w B t
theorem RdPr.below {w w' : World} {B : Nat} {A : Option Addr} {ts : List PropT} (h : RdPr w B A ts) (hb : Below B w w') : RdPr w' B A ts := ⟨h.row.below hb, fun t ht => (h.el t ht).below hb⟩
theorem RdPr.elem {w : World} {B : Nat} {A : Option Addr} {ts : List PropT} (h : RdPr w B A ts) {k : Nat} {t : PropT} (hk : ts[k]? = some t) : ∃ b off, A = some ⟨b, off, none⟩ ∧ b < B ∧ w.rangeAt b (off + k * 263) t.cells := by
  have := RdV.elem (K := 263) h.row (fun t ht => propC_len (h.el t ht).ok t.A t.c) (by omega) hk
  rwa [Nat.mul_comm] at this

set_option maxRecDepth 100000 in
set_option maxHeartbeats 2000000 in
theorem listProp_any {w : World} {B g : Nat} {xs : List (BitVec 8)} {bad : Bool} (hP : Pen w B g xs bad) {B' : Nat} {A : Option Addr} {n c : Nat} {ts : List PropT} (hr : RdPr w B' A ts) (hB' : B' ≤ B) (hn : ts.length = n) (hy : n ≤ 9223372036854775807) (hx : xs.length ≤ 100000) :
    Calls Try.prog 82 #[.pointer (some ⟨g, 0, none⟩), .slice A n c, .int .i64 255, .func (.func 77) #[] #[]] w fun e w' => e = .returned (.tuple #[]) ∧ (∃ ys, Pen w' B g (xs ++ ys) (bad || outOf n 255 || propsBad ts) ∧ ((bad || outOf n 255 || propsBad ts) = false → ys = be n 1 ++ propsB ts) ∧ ys.length ≤ 178501) ∧ Below B w w' ∧ Oth w w' := by
  have HP := Lib.hid hP
  have HR := Lib.hid hr
  have HN := Lib.hid hn
  obtain ⟨b1, hb1⟩ : ∃ b1, b1 = (bad || outOf n 255) := ⟨_, rfl⟩
  have HS := Lib.hid (show b1 = false → n ≤ 255 from fun h => by rw [h] at hb1; have h2 := (Bool.or_eq_false_iff.1 hb1.symm).2; obtain ⟨N, hN, hNl⟩ := outOf_nat h2; omega)
  have hnum := numberO_in hP (n : Int) 1 1 rfl 255 (by omega) (by omega) (by omega) (by omega)
  rw [← hb1] at hnum ⊢
  have HNum := Lib.hid hnum
  have hsz := hP.size
  clear hP hr hn hb1 hnum
  go_enter Try.func82, Try.ntmps82
  go_wp2_with fail
  refine HNum.out.mono ?_
  rintro e w1 ⟨rfl, hp1, hb1, ho1⟩
  have HP1 := Lib.hid hp1
  have HB1 := Lib.hid hb1
  have HO1 := Lib.hid ho1
  clear hp1 hb1 ho1
  go_wp2_with fail
  go_loopw [9, 17] (fun pv iv wr => ∃ (k : Nat) (ys : List (BitVec 8)), k ≤ n ∧ iv = .int .i64 (k : Int) ∧ (b1 = true → k = 0) ∧ Pen wr B g (xs ++ ys) (b1 || propsBad (ts.take k)) ∧ ((b1 || propsBad (ts.take k)) = false → ys = be n 1 ++ propsB (ts.take k)) ∧ ys.length ≤ 1 + k * 700 ∧ Below B w wr ∧ Oth w wr) (fun _ iv _ => n - (intOf iv).toNat)
  case atStart => exact ⟨0, be n 1, by omega, rfl, fun _ => rfl, HP1.out.cast rfl (by simp [propsBad]), fun _ => by simp [propsB], by rw [be_len]; omega, HB1.out, HO1.out⟩
  case round =>
    obtain ⟨k, ys, hk, rfl, hk0, hp, hys, hyl, hb, ho⟩ := hrel
    have HPk := Lib.hid hp
    have HB := Lib.hid hb
    have HOr := Lib.hid ho
    have HYs := Lib.hid hys
    have hszr := hp.size
    have hkm : k ≤ 255 := by
      cases hbb : b1 with
      | true => have := hk0 hbb; omega
      | false => have := HS.out hbb; omega
    have HK0 := Lib.hid hk0
    clear ho hys hk0
    by_cases hlt : k < n
    · have hlt' : (k : Int) < (n : Int) := by omega
      obtain ⟨t, ht⟩ : ∃ t, ts[k]? = some t := ⟨ts[k]'(by rw [HN.out]; omega), List.getElem?_eq_getElem _⟩
      obtain ⟨b, off, e1, hbb, hc1⟩ := (HR.out.below (hb.mono hB')).elem ht
      subst e1
      have HT := Lib.hid ht
      have HC := Lib.hid hc1
      have hmem := List.mem_of_getElem? ht
      have HEl := Lib.hid ((HR.out.el t hmem).below (hb.mono hB'))
      have HLen := Lib.hid (show t.cells.length = 263 from propC_len HEl.out.ok t.A t.c)
      obtain ⟨q, hq⟩ : ∃ q, q = (b1 || propsBad (ts.take k)) := ⟨_, rfl⟩
      rw [← hq] at hp HPk HYs
      have HQ := Lib.hid hq
      clear hp hb ht hc1 hmem hq
      have HF := Lib.hid (show ∀ w2, (wr.alloc (.cells zPropC.toArray 71)).grownBy w2 (some wr.heap.size) → Pen w2 B g (xs ++ ys) q ∧ Below wr.heap.size wr w2 from fun w2 hg => ⟨HPk.out.newer (below_box hg), below_box hg⟩)
      cases q with
      | true =>
        go_wp2_with (first
          | (refine wpList_load_midw (by first | rfl | go_simp) 71 (.tmp 19) rfl b (off + k * 263) rfl t.cells _ HC.out Try.underlying71 rfl (by rw [HLen.out]; exact infoProp) ?_)
          | (refine wpList_load_midw (by first | rfl | go_simp) 71 (.tmp 9) rfl wr.heap.size 0 rfl t.cells _ (Blk.whole HP2.out) Try.underlying71 rfl (by rw [HLen.out]; exact infoProp) ?_)
          | (refine wpList_store_blk rfl 71 _ _ rfl wr.heap.size rfl t.cells rfl _ _ (Blk.new wr 71 zPropC) (by rw [zPropC_len, HLen.out]) (by rw [HLen.out]; exact infoProp) (propC_one t.x t.A t.c) ?_; intro w2 hp2 hg2; have HP2 := Lib.hid hp2; obtain ⟨hpen, hbel⟩ := HF.out w2 hg2; obtain ⟨v, h1, h2⟩ := hpen.at_; have c1 := h1.cell 1 rfl; have HPen := Lib.hid hpen; have HBel := Lib.hid hbel; have hqz2 := hbel.size; clear hp2 hg2 h1 h2 hpen hbel HF))
        refine bodyPost_ret (results_none rfl _ _ _) rfl ?_
        refine ⟨rfl, ⟨ys, HPen.out.cast rfl ?_, ?_, ?_⟩, HB.out.trans (HBel.out.mono hszr), HOr.out.trans (oth_newer HBel.out)⟩
        · have h := HQ.out
          cases b1 with
          | true => simp
          | false => simp only [Bool.false_or] at h; rw [propsBad_take ts k h.symm]; rfl
        · intro h
          have h2 := HQ.out
          cases b1 with
          | true => simp at h
          | false => simp only [Bool.false_or] at h h2; rw [propsBad_take ts k h2.symm] at h; cases h
        · omega
      | false =>
        go_wp2_with (first
          | (refine wpList_load_midw (by first | rfl | go_simp) 71 (.tmp 19) rfl b (off + k * 263) rfl t.cells _ HC.out Try.underlying71 rfl (by rw [HLen.out]; exact infoProp) ?_)
          | (refine wpList_load_midw (by first | rfl | go_simp) 71 (.tmp 9) rfl wr.heap.size 0 rfl t.cells _ (Blk.whole HP2.out) Try.underlying71 rfl (by rw [HLen.out]; exact infoProp) ?_)
          | (refine wpList_store_blk rfl 71 _ _ rfl wr.heap.size rfl t.cells rfl _ _ (Blk.new wr 71 zPropC) (by rw [zPropC_len, HLen.out]) (by rw [HLen.out]; exact infoProp) (propC_one t.x t.A t.c) ?_; intro w2 hp2 hg2; have HP2 := Lib.hid hp2; obtain ⟨hpen, hbel⟩ := HF.out w2 hg2; obtain ⟨v, h1, h2⟩ := hpen.at_; have c1 := h1.cell 1 rfl; have HPen := Lib.hid hpen; have HBel := Lib.hid hbel; have hqz2 := hbel.size; clear hp2 hg2 h1 h2 hpen hbel HF))
        have hk1 : b1 = false := (Bool.or_eq_false_iff.1 HQ.out.symm).1
        have hkn : k + 1 ≤ 255 := by have := HS.out hk1; omega
        refine (proposalO_any HPen.out t.x HEl.out.ok (HEl.out.um.below (HBel.out.mono (by omega))) hB' HEl.out.uml (by rw [List.length_append]; omega)).mono ?_
        rintro e w3 ⟨rfl, ⟨zs, hp3, hz3, hl3⟩, hb3, ho3⟩
        have HP3 := Lib.hid hp3
        have HB3 := Lib.hid (HB.out.trans ((HBel.out.mono hszr).trans hb3))
        have HO3 := Lib.hid (HOr.out.trans ((oth_newer HBel.out).trans ho3))
        have HZ3 := Lib.hid hz3
        have HK1 := Lib.hid hk1
        clear hp3 hb3 ho3 hz3 hk1
        go_wp2_with fail
        have e2 : (b1 || propsBad (ts.take (k + 1))) = (false || propBad t.x) := by rw [propsBad_succ ts k t HT.out, ← Bool.or_assoc, ← HQ.out]
        refine ⟨⟨k + 1, ys ++ zs, by omega, by congr 1, (fun h => by rw [HK1.out] at h; cases h), HP3.out.cast (by rw [List.append_assoc]) e2.symm, ?_, by rw [List.length_append]; omega, HB3.out, HO3.out⟩, by show n - ((k : Int) + 1).toNat < n - (k : Int).toNat; omega⟩
        intro h
        rw [e2] at h
        rw [propsB_succ ts k t HT.out, HYs.out (by first | rfl | trivial), HZ3.out h, List.append_assoc]
    · obtain rfl : k = n := by omega
      clear hp hb
      go_wp2_with fail
      go_end0
      have e1 : ts.take k = ts := List.take_of_length_le (by rw [HN.out]; omega)
      have h := HPk.out
      have h2 := HYs.out
      rw [e1] at h h2
      exact ⟨rfl, ⟨ys, h, h2, by omega⟩, HB.out, HOr.out⟩
end Go.Proofs.Ytloglpamnalmeaa
