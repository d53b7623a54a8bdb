/- CONTRACTS: wire.whole, wire.list[Node], wire.tree, wire.PutTree. -/
import Derived.Test.YtloglpamnalmeaaTreeD
import Derived.Test.YtloglpamnalmeaaNodeW
namespace Go.Proofs.Ytloglpamnalmeaa
open Go.RowKit
set_option linter.unusedVariables false
set_option linter.unusedSimpArgs false

def wholeB (n : Nat) : Bool := n == 1 || n == 3 || n == 7 || n == 15 || n == 31 || n == 63
set_option maxRecDepth 100000 in
theorem whole_any (n : Nat) (hn : n ≤ 4611686018427387904) (w : World) : Calls Try.prog 105 #[.int .i64 (n : Int)] w fun e w' => e = .returned (.bool (wholeB n)) ∧ w = w' := by
  by_cases h1 : 1 ≤ n
  · have h1' : (1 : Int) ≤ (n : Int) := by omega
    by_cases h2 : n < 64
    · have h2' : (n : Int) < 64 := by omega
      go_enter Try.func105, Try.ntmps105
      go_wp2
      go_ret
      have h : ∀ m : Fin 64, 1 ≤ m.val → (bits BinOp.and IntKind.i64 (m.val : Int) ((m.val : Int) + 1) == 0) = wholeB m.val := by decide +kernel
      exact ⟨by rw [← h ⟨n, h2⟩ h1]; rfl, rfl⟩
    · have h2' : ((n : Int) < 64) = False := by simp; omega
      have e : wholeB n = false := by simp [wholeB]; omega
      rw [e]
      go_enter Try.func105, Try.ntmps105
      go_wp2
      go_ret
      exact ⟨rfl, rfl⟩
  · obtain rfl : n = 0 := by omega
    go_enter Try.func105, Try.ntmps105
    go_wp2
    go_ret
    exact ⟨rfl, rfl⟩

def nodesB (ts : List TN) : List (BitVec 8) := ts.flatMap fun t => nodeB t.x
def nodesBad (ts : List TN) : Bool := ts.any fun t => nodeBad t.x
theorem nodesB_succ (ts : List TN) (k : Nat) (t : TN) (h : ts[k]? = some t) : nodesB (ts.take (k + 1)) = nodesB (ts.take k) ++ nodeB t.x := by
  unfold nodesB; rw [List.take_add_one, List.flatMap_append, h]; simp
theorem nodesBad_succ (ts : List TN) (k : Nat) (t : TN) (h : ts[k]? = some t) : nodesBad (ts.take (k + 1)) = (nodesBad (ts.take k) || nodeBad t.x) := by
  unfold nodesBad; rw [List.take_add_one, List.any_append, h]; simp
theorem nodesBad_take (ts : List TN) (k : Nat) (h : nodesBad (ts.take k) = true) : nodesBad ts = true := by
  unfold nodesBad at *; rw [List.any_eq_true] at *
  obtain ⟨x, hx, h⟩ := h
  exact ⟨x, List.mem_of_mem_take hx, h⟩
theorem Pen.newer {w w' : World} {B g : Nat} {xs : List (BitVec 8)} {bad : Bool} (h : Pen w B g xs bad) (hb : Below w.heap.size w w') : Pen w' B g xs bad := h.below hb (Nat.le_refl _)
theorem oth_newer {w w' : World} (hb : Below w.heap.size w w') : Oth w w' := fun k T cs a b c => c.below hb c.lt
theorem below_box {w w' : World} {o : Obj} (hg : (w.alloc o).grownBy w' (some w.heap.size)) : Below w.heap.size w w' :=
  ((Below.refl w.heap.size w).alloc (Nat.le_refl _) o).grown hg (by simp) (fun k e => by cases e; exact Nat.le_refl _)
set_option maxRecDepth 100000 in
set_option maxHeartbeats 2000000 in
theorem listNdO_any {w : World} {B g : Nat} {xs : List (BitVec 8)} {bad : Bool} (hP : Pen w B g xs bad) {B' : Nat} {A : Option Addr} {n c : Nat} {ts : List TN} (hr : RdT w B' A ts) (hB' : B' ≤ B) (hn : ts.length = n) (hy : n ≤ 300) (hu : ∀ t ∈ ts, t.x.um.length ≤ 300) (hx : xs.length ≤ 1000000) :
    Calls Try.prog 106 #[.pointer (some ⟨g, 0, none⟩), .slice A n c, .int .i64 255, .func (.func 64) #[] #[]] w fun e w' => e = .returned (.tuple #[]) ∧ (∃ ys, Pen w' B g (xs ++ ys) (bad || outOf n 255 || nodesBad ts) ∧ ((bad || outOf n 255 || nodesBad ts) = false → ys = be n 1 ++ nodesB ts) ∧ ys.length ≤ 1 + n * 400) ∧ Below B w w' ∧ Oth w w' := by
  have HP := Lib.hid hP
  have HR := Lib.hid hr
  have HN := Lib.hid hn
  have HU := Lib.hid hu
  obtain ⟨b1, hb1⟩ : ∃ b1, b1 = (bad || outOf n 255) := ⟨_, rfl⟩
  have hnum := numberO_in hP (n : Int) 1 1 rfl 255 (by omega) (by omega) (by omega) (by omega)
  rw [← hb1] at hnum ⊢
  have HNum := Lib.hid hnum
  have hsz := hP.size
  clear hP hr hn hb1 hnum hu
  go_enter Try.func106, Try.ntmps106
  go_wp2_with fail
  refine HNum.out.mono ?_
  rintro e w1 ⟨rfl, hp1, hb1, ho1⟩
  have HP1 := Lib.hid hp1
  have HB1 := Lib.hid hb1
  have HO1 := Lib.hid ho1
  clear hp1 hb1 ho1
  go_wp2_with fail
  go_loopw [9, 17] (fun pv iv wr => ∃ (k : Nat) (ys : List (BitVec 8)), k ≤ n ∧ iv = .int .i64 (k : Int) ∧ Pen wr B g (xs ++ ys) (b1 || nodesBad (ts.take k)) ∧ ((b1 || nodesBad (ts.take k)) = false → ys = be n 1 ++ nodesB (ts.take k)) ∧ ys.length ≤ 1 + k * 400 ∧ Below B w wr ∧ Oth w wr) (fun _ iv _ => n - (intOf iv).toNat)
  case atStart => exact ⟨0, be n 1, by omega, rfl, HP1.out.cast rfl (by simp [nodesBad]), fun _ => by simp [nodesB], by rw [be_len]; omega, HB1.out, HO1.out⟩
  case round =>
    obtain ⟨k, ys, hk, rfl, hp, hys, hyl, hb, ho⟩ := hrel
    have HPk := Lib.hid hp
    have HB := Lib.hid hb
    have HOr := Lib.hid ho
    have HYs := Lib.hid hys
    have hszr := hp.size
    clear ho hys
    by_cases hlt : k < n
    · have hlt' : (k : Int) < (n : Int) := by omega
      obtain ⟨t, ht⟩ : ∃ t, ts[k]? = some t := ⟨ts[k]'(by rw [HN.out]; omega), List.getElem?_eq_getElem _⟩
      obtain ⟨b, off, e1, hbb, hc1⟩ := (HR.out.below (hb.mono hB')).elem ht
      subst e1
      have HT := Lib.hid ht
      have HC := Lib.hid hc1
      have hmem := List.mem_of_getElem? ht
      have HOk := Lib.hid (HR.out.ok t hmem)
      have HUm := Lib.hid ((HR.out.um t hmem).below (hb.mono hB'))
      have hul : t.x.um.length ≤ 300 := HU.out t hmem
      have HLen := Lib.hid (show t.cells.length = 99 from nodeC_len HOk.out t.A t.c)
      obtain ⟨q, hq⟩ : ∃ q, q = (b1 || nodesBad (ts.take k)) := ⟨_, rfl⟩
      rw [← hq] at hp HPk HYs
      have HQ := Lib.hid hq
      clear hp hb ht hc1 hmem hq
      have HF := Lib.hid (show ∀ w2, (wr.alloc (.cells Try.zeroCells50 50)).grownBy w2 (some wr.heap.size) → Pen w2 B g (xs ++ ys) q ∧ Below wr.heap.size wr w2 from fun w2 hg => ⟨HPk.out.newer (below_box hg), below_box hg⟩)
      cases q with
      | true =>
        go_wp2_with (first
          | (refine wpList_load_midw (by first | rfl | go_simp) 50 (.tmp 19) rfl b (off + k * 99) rfl t.cells _ HC.out Try.underlying50 rfl (by rw [HLen.out]; exact infoNode) ?_)
          | (refine wpList_load_midw (by first | rfl | go_simp) 50 (.tmp 9) rfl wr.heap.size 0 rfl t.cells _ (Blk.whole HP2.out) Try.underlying50 rfl (by rw [HLen.out]; exact infoNode) ?_)
          | (refine wpList_store_blk rfl 50 _ _ rfl wr.heap.size rfl t.cells rfl _ _ (Blk.new wr 50 zTN) (by rw [zTN_len, HLen.out]) (by rw [HLen.out]; exact infoNode) (nodeC_one t.x t.A t.c) ?_; intro w2 hp2 hg2; have HP2 := Lib.hid hp2; obtain ⟨hpen, hbel⟩ := HF.out w2 hg2; obtain ⟨v, h1, h2⟩ := hpen.at_; have c1 := h1.cell 1 rfl; have HPen := Lib.hid hpen; have HBel := Lib.hid hbel; have hz2 := hbel.size; clear hp2 hg2 h1 h2 hpen hbel HF))
        refine bodyPost_ret (results_none rfl _ _ _) rfl ?_
        refine ⟨rfl, ⟨ys, HPen.out.cast rfl ?_, ?_, ?_⟩, HB.out.trans (HBel.out.mono hszr), HOr.out.trans (oth_newer HBel.out)⟩
        · have h := HQ.out
          cases b1 with
          | true => simp
          | false => simp only [Bool.false_or] at h; rw [nodesBad_take ts k h.symm]; rfl
        · intro h
          have h2 := HQ.out
          cases b1 with
          | true => simp at h
          | false => simp only [Bool.false_or] at h h2; rw [nodesBad_take ts k h2.symm] at h; cases h
        · have : k * 400 ≤ n * 400 := Nat.mul_le_mul_right _ hk
          omega
      | false =>
        go_wp2_with (first
          | (refine wpList_load_midw (by first | rfl | go_simp) 50 (.tmp 19) rfl b (off + k * 99) rfl t.cells _ HC.out Try.underlying50 rfl (by rw [HLen.out]; exact infoNode) ?_)
          | (refine wpList_load_midw (by first | rfl | go_simp) 50 (.tmp 9) rfl wr.heap.size 0 rfl t.cells _ (Blk.whole HP2.out) Try.underlying50 rfl (by rw [HLen.out]; exact infoNode) ?_)
          | (refine wpList_store_blk rfl 50 _ _ rfl wr.heap.size rfl t.cells rfl _ _ (Blk.new wr 50 zTN) (by rw [zTN_len, HLen.out]) (by rw [HLen.out]; exact infoNode) (nodeC_one t.x t.A t.c) ?_; intro w2 hp2 hg2; have HP2 := Lib.hid hp2; obtain ⟨hpen, hbel⟩ := HF.out w2 hg2; obtain ⟨v, h1, h2⟩ := hpen.at_; have c1 := h1.cell 1 rfl; have HPen := Lib.hid hpen; have HBel := Lib.hid hbel; have hz2 := hbel.size; clear hp2 hg2 h1 h2 hpen hbel HF))
        refine (nodeO_any HPen.out t.x HOk.out (HUm.out.below (HBel.out.mono (by omega))) hB' (by omega) (by rw [List.length_append]; omega)).mono ?_
        rintro e w3 ⟨rfl, ⟨zs, hp3, hz3, hl3⟩, hb3, ho3⟩
        have HP3 := Lib.hid hp3
        have HB3 := Lib.hid (HB.out.trans ((HBel.out.mono hszr).trans hb3))
        have HO3 := Lib.hid (HOr.out.trans ((oth_newer HBel.out).trans ho3))
        have HZ3 := Lib.hid hz3
        clear hp3 hb3 ho3 hz3
        go_wp2_with fail
        have e2 : (b1 || nodesBad (ts.take (k + 1))) = (false || nodeBad t.x) := by rw [nodesBad_succ ts k t HT.out, ← Bool.or_assoc, ← HQ.out]
        refine ⟨⟨k + 1, ys ++ zs, by omega, by congr 1, HP3.out.cast (by rw [List.append_assoc]) e2.symm, ?_, by rw [List.length_append]; omega, HB3.out, HO3.out⟩, by show n - ((k : Int) + 1).toNat < n - (k : Int).toNat; omega⟩
        intro h
        rw [e2] at h
        rw [nodesB_succ ts k t HT.out, HYs.out (by first | rfl | trivial), HZ3.out h, List.append_assoc]
    · obtain rfl : k = n := by omega
      clear hp hb
      go_wp2_with fail
      go_end0
      have e1 : ts.take k = ts := List.take_of_length_le (by rw [HN.out]; omega)
      have h := HPk.out
      have h2 := HYs.out
      rw [e1] at h h2
      exact ⟨rfl, ⟨ys, h, h2, hyl⟩, HB.out, HOr.out⟩

def treeBad (ts : List TN) : Bool := !wholeB ts.length || nodesBad ts
def treeB (ts : List TN) : List (BitVec 8) := be ts.length 1 ++ nodesB ts
theorem wholeB_lt {n : Nat} (h : wholeB n = true) : n ≤ 63 ∧ 1 ≤ n := by
  unfold wholeB at h; simp at h; omega
set_option maxRecDepth 100000 in
set_option maxHeartbeats 2000000 in
theorem treeO_any {w : World} {B g : Nat} {xs : List (BitVec 8)} {bad : Bool} (hP : Pen w B g xs bad) {B' : Nat} {A : Option Addr} {n c : Nat} {ts : List TN} (hr : RdT w B' A ts) (hB' : B' ≤ B) (hn : ts.length = n) (hy : n ≤ 300) (hu : ∀ t ∈ ts, t.x.um.length ≤ 300) (hx : xs.length ≤ 1000000) :
    Calls Try.prog 67 #[.pointer (some ⟨g, 0, none⟩), .slice A n c] w fun e w' => e = .returned (.tuple #[]) ∧ (∃ ys, Pen w' B g (xs ++ ys) (bad || treeBad ts) ∧ ((bad || treeBad ts) = false → ys = treeB ts) ∧ ys.length ≤ 1 + n * 400) ∧ Below B w w' ∧ Oth w w' := by
  have HN := Lib.hid hn
  have HW := Lib.hid (fun W => whole_any n (by omega) W)
  have hle := hP.le
  have key : ∀ (w2 : World) (b2 : Bool), b2 = (bad || !wholeB n) → Pen w2 B g xs b2 → Below B w w2 → Oth w w2 → Calls Try.prog 106 #[.pointer (some ⟨g, 0, none⟩), .slice A n c, .int .i64 255, .func (.func 64) #[] #[]] w2 fun e w' => e = .returned (.tuple #[]) ∧ (∃ ys, Pen w' B g (xs ++ ys) (bad || treeBad ts) ∧ ((bad || treeBad ts) = false → ys = treeB ts) ∧ ys.length ≤ 1 + n * 400) ∧ Below B w w' ∧ Oth w w' := by
    intro w2 b2 hb2 hp2 hbl ho
    have e : (b2 || outOf n 255 || nodesBad ts) = (bad || treeBad ts) := by
      rw [hb2, treeBad, hn]
      cases hw : wholeB n with
      | true => rw [show outOf n 255 = false by have := wholeB_lt hw; simp [outOf]; omega]; simp
      | false => simp
    refine (listNdO_any hp2 (hr.below (hbl.mono hB')) hB' hn hy hu hx).mono ?_
    rintro e' w3 ⟨rfl, ⟨ys, h1, h2, h3⟩, h4, h5⟩
    rw [e] at h1 h2
    exact ⟨rfl, ⟨ys, h1, fun h => by rw [h2 h, treeB, hn], h3⟩, hbl.trans h4, ho.trans h5⟩
  have HK := Lib.hid key
  have HP := Lib.hid hP
  obtain ⟨v, h1, h2⟩ := hP.at_
  have c1 := h1.cell 1 rfl
  have f1 := h1.frozen 1
  have HO1 := Lib.hid (fun u => Oth.set_ (k0 := 1) (u := u) h1)
  obtain ⟨wb, hwb⟩ : ∃ wb, wb = wholeB n := ⟨_, rfl⟩
  rw [← hwb] at HW HK
  have HR := Lib.hid hr
  clear h1 h2 key hP hr hu hn hwb
  cases bad with
  | true =>
    go_enter Try.func67, Try.ntmps67
    go_wp2_with fail
    refine (HK.out (w.setCell ⟨g, 1, none⟩ (.bool true)) true (by simp) (HP.out.setBad true) ((Below.refl B w).setCell (p := ⟨g, 1, none⟩) hle _) (HO1.out _)).mono ?_
    rintro e w3 ⟨rfl, h1, h2, h3⟩
    have H1 := Lib.hid h1
    have H2 := Lib.hid h2
    have H3 := Lib.hid h3
    clear h1 h2 h3
    go_wp2
    go_end0
    exact ⟨rfl, H1.out, H2.out, H3.out⟩
  | false =>
    cases wb with
    | true =>
      go_enter Try.func67, Try.ntmps67
      go_wp2_with fail
      refine (HW.out _).mono ?_
      rintro e w1 ⟨rfl, rfl⟩
      go_wp2_with fail
      refine (HK.out (w.setCell ⟨g, 1, none⟩ (.bool false)) false (by simp) (HP.out.setBad false) ((Below.refl B w).setCell (p := ⟨g, 1, none⟩) hle _) (HO1.out _)).mono ?_
      rintro e w3 ⟨rfl, h1, h2, h3⟩
      have H1 := Lib.hid h1
      have H2 := Lib.hid h2
      have H3 := Lib.hid h3
      clear h1 h2 h3
      go_wp2
      go_end0
      exact ⟨rfl, H1.out, H2.out, H3.out⟩
    | false =>
      go_enter Try.func67, Try.ntmps67
      go_wp2_with fail
      refine (HW.out _).mono ?_
      rintro e w1 ⟨rfl, rfl⟩
      go_wp2_with fail
      refine (HK.out (w.setCell ⟨g, 1, none⟩ (.bool true)) true (by simp) (HP.out.setBad true) ((Below.refl B w).setCell (p := ⟨g, 1, none⟩) hle _) (HO1.out _)).mono ?_
      rintro e w3 ⟨rfl, h1, h2, h3⟩
      have H1 := Lib.hid h1
      have H2 := Lib.hid h2
      have H3 := Lib.hid h3
      clear h1 h2 h3
      go_wp2
      go_end0
      exact ⟨rfl, H1.out, H2.out, H3.out⟩
/-- the end of every Put: what a pen has written -/
theorem end_put {w : World} {B g : Nat} {zs X : List (BitVec 8)} {q : Bool} (hP : Pen w B g ([] ++ zs) (false || q)) (hz : (false || q) = false → zs = X) :
    Calls Try.prog 52 #[.pointer (some ⟨g, 0, none⟩)] w fun e w' => (∃ v, e = .returned (.tuple #[v, errV (if (q || decide (65536 < X.length)) then 3 else 0)]) ∧ Own b8 w' B 5 v (if (q || decide (65536 < X.length)) then [] else X)) ∧ w = w' := by
  have h := end_any hP
  rw [Bool.false_or] at hz
  cases q with
  | true => exact h
  | false =>
    have := hz rfl
    subst this
    exact h
set_option maxRecDepth 100000 in
set_option maxHeartbeats 2000000 in
theorem putTree_any {w : World} {B' : Nat} {A : Option Addr} {n c : Nat} {ts : List TN} (hr : RdT w B' A ts) (hB' : B' ≤ w.heap.size) (hn : ts.length = n) (hy : n ≤ 300) (hu : ∀ t ∈ ts, t.x.um.length ≤ 300) :
    Calls Try.prog 26 #[.slice A n c] w fun e w' => ∃ v, e = .returned (.tuple #[v, errV (if (treeBad ts || decide (65536 < (treeB ts).length)) then 3 else 0)]) ∧ Own b8 w' w.heap.size 5 v (if (treeBad ts || decide (65536 < (treeB ts).length)) then [] else treeB ts) ∧ Below w.heap.size w w' := by
  have HR := Lib.hid hr
  have HN := Lib.hid hn
  have HU := Lib.hid hu
  have HF := Lib.hid (show ∀ W1, w.alloc (.cells #[.slice none 0 0, .bool false] 112) = W1 →
      Pen W1 w.heap.size w.heap.size [] false ∧ Below w.heap.size w W1 by
    rintro W1 rfl
    exact ⟨pen_of (v := .slice none 0 0) (Blk.new w _ [.slice none 0 0, .bool false]) (Own.nil_ _ _ _ _) (Nat.le_refl _), (Below.refl _ _).alloc (Nat.le_refl _) _⟩)
  obtain ⟨q, hq⟩ : ∃ q, q = (treeBad ts || decide (65536 < (treeB ts).length)) := ⟨_, rfl⟩
  rw [← hq]
  have HQ := Lib.hid hq
  clear hr hn hu hq
  go_enter Try.func26, Try.ntmps26
  go_wp2_with fail
  generalize hW1 : World.alloc w _ = W1
  obtain ⟨hp1, hb1⟩ := HF.out W1 hW1
  have HP1 := Lib.hid hp1
  have HB1 := Lib.hid hb1
  clear hW1 HF hp1 hb1
  refine (treeO_any HP1.out (HR.out.below (HB1.out.mono hB')) hB' HN.out hy HU.out (by simp)).mono ?_
  rintro e w2 ⟨rfl, ⟨zs, hp2, hz2, hl2⟩, hb2, -⟩
  have HEnd := Lib.hid (end_put hp2 hz2)
  rw [← HQ.out] at HEnd
  have HBe := Lib.hid (HB1.out.trans hb2)
  clear hp2 hb2 hz2
  go_wp2_with fail
  refine HEnd.out.mono ?_
  rintro e w5 ⟨⟨v5, rfl, ho5⟩, rfl⟩
  have HO5 := Lib.hid ho5
  clear ho5
  cases q with
  | true =>
    go_wp2_with fail
    go_ret2
    exact ⟨_, rfl, HO5.out, HBe.out⟩
  | false =>
    go_wp2_with fail
    go_ret2
    exact ⟨_, rfl, HO5.out, HBe.out⟩
end Go.Proofs.Ytloglpamnalmeaa
