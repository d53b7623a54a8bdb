/- Steps and paths in memory. CONTRACTS: wire.step, wire.list[Step], wire.path. -/
import Derived.Test.YtloglpamnalmeaaCommD
namespace Go.Proofs.Ytloglpamnalmeaa
open Go.RowKit
set_option linter.unusedVariables false
set_option linter.unusedSimpArgs false

/-- a step in memory -/
structure StepT where
  key : List (BitVec 8)
  rows : List RowT
  A : Option Addr
  c : Nat
def StepT.cells (s : StepT) : List Value := s.key.map b8 ++ [.slice s.A s.rows.length s.c]
structure ElS (w : World) (B : Nat) (s : StepT) : Prop where
  key : s.key.length = 32
  rows : RdR w B s.A s.rows
  len : s.rows.length ≤ 9223372036854775807
theorem ElS.below {w w' : World} {B : Nat} {s : StepT} (h : ElS w B s) (hb : Below B w w') : ElS w' B s := ⟨h.key, h.rows.below hb, h.len⟩
theorem stepC_len {s : StepT} (h : s.key.length = 32) : s.cells.length = 33 := by simp [StepT.cells, h]
theorem stepC_one (s : StepT) : ∀ u ∈ s.cells, u.oneCell' = true := by
  intro u hu
  simp only [StepT.cells, List.mem_append, List.mem_map, List.mem_singleton] at hu
  rcases hu with ⟨y, -, rfl⟩ | rfl <;> rfl
theorem infoStep : (Try.prog.info? 144).map (·.size) = some 33 := by kernel_rfl
def zStep : List Value := zero32.map b8 ++ [.slice none 0 0]
theorem zStep_len : zStep.length = 33 := by simp [zStep, zero32_len]
def stepB (s : StepT) : List (BitVec 8) := s.key ++ (be s.rows.length 1 ++ rowsB s.rows)
def stepBad (s : StepT) : Bool := outOf s.rows.length 255 || rowsBad s.rows
set_option maxRecDepth 100000 in
set_option maxHeartbeats 2000000 in
theorem stepO_any {w : World} {B g : Nat} {xs : List (BitVec 8)} {bad : Bool} (hP : Pen w B g xs bad) {B' : Nat} {s : StepT} (hr : ElS w B' s) (hB' : B' ≤ B) (hx : xs.length ≤ 79000000) :
    Calls Try.prog 111 #[.pointer (some ⟨g, 0, none⟩), .agg s.cells.toArray] w fun e w' => e = .returned (.tuple #[]) ∧ (∃ ys, Pen w' B g (xs ++ ys) (bad || stepBad s) ∧ ((bad || stepBad s) = false → ys = stepB s) ∧ ys.length ≤ 16711968) ∧ Below B w w' ∧ Oth w w' := by
  have HR := Lib.hid hr
  have HP0 := Lib.hid (hP.alloc (.cells s.cells.toArray 144))
  have HBx0 := Lib.hid (Blk.new w 144 s.cells)
  have HW0 := Lib.hid ((Below.refl B w).alloc hP.size (.cells s.cells.toArray 144))
  have HO0 := Lib.hid ((Oth.refl w).alloc (.cells s.cells.toArray 144))
  have hs0 := World.size_alloc w (.cells s.cells.toArray 144)
  have hsz := hP.size
  have HCk := Lib.hid (fun (W : World) (h : Blk W w.heap.size 144 s.cells) => (show W.rangeAt w.heap.size 0 (s.key.map b8) from h.piece (pre := []) rfl rfl))
  have HCs := Lib.hid (fun (W : World) (h : Blk W w.heap.size 144 s.cells) => (show W.cell? ⟨w.heap.size, 32, none⟩ = some (.slice s.A s.rows.length s.c) from h.one (pre := s.key.map b8) (post := []) rfl (by simp [hr.key])))
  clear hP hr
  go_enter Try.func111, Try.ntmps111
  go_wp2_with fail
  generalize World.alloc w _ = w0 at HP0 HBx0 HW0 HO0 hs0 ⊢
  refine (bytesO_any HP0.out (rd_of_range (HCk.out _ HBx0.out)) (by omega) HR.out.key (by omega) (by omega)).mono ?_
  rintro e w1 ⟨rfl, hp1, hb1, ho1⟩
  have HP1 := Lib.hid hp1
  have HBx1 := Lib.hid (ho1 _ _ _ (by decide) (by decide) HBx0.out)
  have HW1 := Lib.hid (HW0.out.trans hb1)
  have HO1 := Lib.hid (HO0.out.trans ho1)
  clear hp1 hb1 ho1
  have c32 := HCs.out _ HBx1.out
  go_wp2_with fail
  refine (listRow_any HP1.out (HR.out.rows.below (HW1.out.mono hB')) hB' rfl HR.out.len (by rw [List.length_append, HR.out.key]; omega)).mono ?_
  rintro e w2 ⟨rfl, ⟨ys, hp2, hy2, hl2⟩, hb2, ho2⟩
  have HP2 := Lib.hid hp2
  have HW2 := Lib.hid (HW1.out.trans hb2)
  have HO2 := Lib.hid (HO1.out.trans ho2)
  have HY2 := Lib.hid hy2
  clear hp2 hb2 ho2 hy2 c32
  go_wp2_with fail
  go_end0
  refine ⟨rfl, ⟨s.key ++ ys, HP2.out.cast (by simp only [List.append_assoc]) (by unfold stepBad; rw [Bool.or_assoc]), ?_, by rw [List.length_append, HR.out.key]; omega⟩, HW2.out, HO2.out⟩
  intro h
  rw [HY2.out (by unfold stepBad at h; rw [Bool.or_assoc]; exact h)]
  rfl

def stepsB (ts : List StepT) : List (BitVec 8) := ts.flatMap fun t => stepB t
def stepsBad (ts : List StepT) : Bool := ts.any fun t => stepBad t
theorem stepsB_succ (ts : List StepT) (k : Nat) (t : StepT) (h : ts[k]? = some t) : stepsB (ts.take (k + 1)) = stepsB (ts.take k) ++ stepB t := by
  unfold stepsB; rw [List.take_add_one, List.flatMap_append, h]; simp
theorem stepsBad_succ (ts : List StepT) (k : Nat) (t : StepT) (h : ts[k]? = some t) : stepsBad (ts.take (k + 1)) = (stepsBad (ts.take k) || stepBad t) := by
  unfold stepsBad; rw [List.take_add_one, List.any_append, h]; simp
theorem stepsBad_take (ts : List StepT) (k : Nat) (h : stepsBad (ts.take k) = true) : stepsBad ts = true := by
  unfold stepsBad at *; rw [List.any_eq_true] at *
  obtain ⟨x, hx, h⟩ := h
  exact ⟨x, List.mem_of_mem_take hx, h⟩

structure RdS (w : World) (B : Nat) (A : Option Addr) (ts : List StepT) : Prop where
  row : RdV w B A (ts.flatMap StepT.cells)
  el : ∀ t ∈ ts, ElS w B t
theorem RdS.below {w w' : World} {B : Nat} {A : Option Addr} {ts : List StepT} (h : RdS w B A ts) (hb : Below B w w') : RdS w' B A ts := ⟨h.row.below hb, fun t ht => (h.el t ht).below hb⟩
theorem RdS.elem {w : World} {B : Nat} {A : Option Addr} {ts : List StepT} (h : RdS w B A ts) {k : Nat} {t : StepT} (hk : ts[k]? = some t) : ∃ b off, A = some ⟨b, off, none⟩ ∧ b < B ∧ w.rangeAt b (off + k * 33) t.cells := by
  have := RdV.elem (K := 33) h.row (fun t ht => stepC_len (h.el t ht).key) (by omega) hk
  rwa [Nat.mul_comm] at this

set_option maxRecDepth 100000 in
set_option maxHeartbeats 2000000 in
theorem listStep_any {w : World} {B g : Nat} {xs : List (BitVec 8)} {bad : Bool} (hP : Pen w B g xs bad) {B' : Nat} {A : Option Addr} {n c : Nat} {ts : List StepT} (hr : RdS w B' A ts) (hB' : B' ≤ B) (hn : ts.length = n) (hy : n ≤ 9223372036854775807) (hx : xs.length ≤ 10000000) :
    Calls Try.prog 110 #[.pointer (some ⟨g, 0, none⟩), .slice A n c, .int .i64 5, .func (.func 111) #[] #[]] w fun e w' => e = .returned (.tuple #[]) ∧ (∃ ys, Pen w' B g (xs ++ ys) (bad || outOf n 5 || stepsBad ts) ∧ ((bad || outOf n 5 || stepsBad ts) = false → ys = be n 1 ++ stepsB ts) ∧ ys.length ≤ 83559841) ∧ Below B w w' ∧ Oth w w' := by
  have HP := Lib.hid hP
  have HR := Lib.hid hr
  have HN := Lib.hid hn
  obtain ⟨b1, hb1⟩ : ∃ b1, b1 = (bad || outOf n 5) := ⟨_, rfl⟩
  have HS := Lib.hid (show b1 = false → n ≤ 5 from fun h => by rw [h] at hb1; have h2 := (Bool.or_eq_false_iff.1 hb1.symm).2; obtain ⟨N, hN, hNl⟩ := outOf_nat h2; omega)
  have hnum := numberO_in hP (n : Int) 1 1 rfl 5 (by omega) (by omega) (by omega) (by omega)
  rw [← hb1] at hnum ⊢
  have HNum := Lib.hid hnum
  have hsz := hP.size
  clear hP hr hn hb1 hnum
  go_enter Try.func110, Try.ntmps110
  go_wp2_with fail
  refine HNum.out.mono ?_
  rintro e w1 ⟨rfl, hp1, hb1, ho1⟩
  have HP1 := Lib.hid hp1
  have HB1 := Lib.hid hb1
  have HO1 := Lib.hid ho1
  clear hp1 hb1 ho1
  go_wp2_with fail
  go_loopw [9, 17] (fun pv iv wr => ∃ (k : Nat) (ys : List (BitVec 8)), k ≤ n ∧ iv = .int .i64 (k : Int) ∧ (b1 = true → k = 0) ∧ Pen wr B g (xs ++ ys) (b1 || stepsBad (ts.take k)) ∧ ((b1 || stepsBad (ts.take k)) = false → ys = be n 1 ++ stepsB (ts.take k)) ∧ ys.length ≤ 1 + k * 16711968 ∧ Below B w wr ∧ Oth w wr) (fun _ iv _ => n - (intOf iv).toNat)
  case atStart => exact ⟨0, be n 1, by omega, rfl, fun _ => rfl, HP1.out.cast rfl (by simp [stepsBad]), fun _ => by simp [stepsB], by rw [be_len]; omega, HB1.out, HO1.out⟩
  case round =>
    obtain ⟨k, ys, hk, rfl, hk0, hp, hys, hyl, hb, ho⟩ := hrel
    have HPk := Lib.hid hp
    have HB := Lib.hid hb
    have HOr := Lib.hid ho
    have HYs := Lib.hid hys
    have hszr := hp.size
    have hkm : k ≤ 5 := by
      cases hbb : b1 with
      | true => have := hk0 hbb; omega
      | false => have := HS.out hbb; omega
    have HK0 := Lib.hid hk0
    clear ho hys hk0
    by_cases hlt : k < n
    · have hlt' : (k : Int) < (n : Int) := by omega
      obtain ⟨t, ht⟩ : ∃ t, ts[k]? = some t := ⟨ts[k]'(by rw [HN.out]; omega), List.getElem?_eq_getElem _⟩
      obtain ⟨b, off, e1, hbb, hc1⟩ := (HR.out.below (hb.mono hB')).elem ht
      subst e1
      have HT := Lib.hid ht
      have HC := Lib.hid hc1
      have hmem := List.mem_of_getElem? ht
      have HEl := Lib.hid ((HR.out.el t hmem).below (hb.mono hB'))
      have HLen := Lib.hid (show t.cells.length = 33 from stepC_len HEl.out.key)
      obtain ⟨q, hq⟩ : ∃ q, q = (b1 || stepsBad (ts.take k)) := ⟨_, rfl⟩
      rw [← hq] at hp HPk HYs
      have HQ := Lib.hid hq
      clear hp hb ht hc1 hmem hq
      have HF := Lib.hid (show ∀ w2, (wr.alloc (.cells zStep.toArray 144)).grownBy w2 (some wr.heap.size) → Pen w2 B g (xs ++ ys) q ∧ Below wr.heap.size wr w2 from fun w2 hg => ⟨HPk.out.newer (below_box hg), below_box hg⟩)
      cases q with
      | true =>
        go_wp2_with (first
          | (refine wpList_load_midw (by first | rfl | go_simp) 144 (.tmp 19) rfl b (off + k * 33) rfl t.cells _ HC.out Try.underlying144 rfl (by rw [HLen.out]; exact infoStep) ?_)
          | (refine wpList_load_midw (by first | rfl | go_simp) 144 (.tmp 9) rfl wr.heap.size 0 rfl t.cells _ (Blk.whole HP2.out) Try.underlying144 rfl (by rw [HLen.out]; exact infoStep) ?_)
          | (refine wpList_store_blk rfl 144 _ _ rfl wr.heap.size rfl t.cells rfl _ _ (Blk.new wr 144 zStep) (by rw [zStep_len, HLen.out]) (by rw [HLen.out]; exact infoStep) (stepC_one t) ?_; intro w2 hp2 hg2; have HP2 := Lib.hid hp2; obtain ⟨hpen, hbel⟩ := HF.out w2 hg2; obtain ⟨v, h1, h2⟩ := hpen.at_; have c1 := h1.cell 1 rfl; have HPen := Lib.hid hpen; have HBel := Lib.hid hbel; have hqz2 := hbel.size; clear hp2 hg2 h1 h2 hpen hbel HF))
        refine bodyPost_ret (results_none rfl _ _ _) rfl ?_
        refine ⟨rfl, ⟨ys, HPen.out.cast rfl ?_, ?_, ?_⟩, HB.out.trans (HBel.out.mono hszr), HOr.out.trans (oth_newer HBel.out)⟩
        · have h := HQ.out
          cases b1 with
          | true => simp
          | false => simp only [Bool.false_or] at h; rw [stepsBad_take ts k h.symm]; rfl
        · intro h
          have h2 := HQ.out
          cases b1 with
          | true => simp at h
          | false => simp only [Bool.false_or] at h h2; rw [stepsBad_take ts k h2.symm] at h; cases h
        · omega
      | false =>
        go_wp2_with (first
          | (refine wpList_load_midw (by first | rfl | go_simp) 144 (.tmp 19) rfl b (off + k * 33) rfl t.cells _ HC.out Try.underlying144 rfl (by rw [HLen.out]; exact infoStep) ?_)
          | (refine wpList_load_midw (by first | rfl | go_simp) 144 (.tmp 9) rfl wr.heap.size 0 rfl t.cells _ (Blk.whole HP2.out) Try.underlying144 rfl (by rw [HLen.out]; exact infoStep) ?_)
          | (refine wpList_store_blk rfl 144 _ _ rfl wr.heap.size rfl t.cells rfl _ _ (Blk.new wr 144 zStep) (by rw [zStep_len, HLen.out]) (by rw [HLen.out]; exact infoStep) (stepC_one t) ?_; intro w2 hp2 hg2; have HP2 := Lib.hid hp2; obtain ⟨hpen, hbel⟩ := HF.out w2 hg2; obtain ⟨v, h1, h2⟩ := hpen.at_; have c1 := h1.cell 1 rfl; have HPen := Lib.hid hpen; have HBel := Lib.hid hbel; have hqz2 := hbel.size; clear hp2 hg2 h1 h2 hpen hbel HF))
        have hk1 : b1 = false := (Bool.or_eq_false_iff.1 HQ.out.symm).1
        have hkn : k + 1 ≤ 5 := by have := HS.out hk1; omega
        refine (stepO_any HPen.out (HEl.out.below (HBel.out.mono (by omega))) hB' (by rw [List.length_append]; omega)).mono ?_
        rintro e w3 ⟨rfl, ⟨zs, hp3, hz3, hl3⟩, hb3, ho3⟩
        have HP3 := Lib.hid hp3
        have HB3 := Lib.hid (HB.out.trans ((HBel.out.mono hszr).trans hb3))
        have HO3 := Lib.hid (HOr.out.trans ((oth_newer HBel.out).trans ho3))
        have HZ3 := Lib.hid hz3
        have HK1 := Lib.hid hk1
        clear hp3 hb3 ho3 hz3 hk1
        go_wp2_with fail
        have e2 : (b1 || stepsBad (ts.take (k + 1))) = (false || stepBad t) := by rw [stepsBad_succ ts k t HT.out, ← Bool.or_assoc, ← HQ.out]
        refine ⟨⟨k + 1, ys ++ zs, by omega, by congr 1, (fun h => by rw [HK1.out] at h; cases h), HP3.out.cast (by rw [List.append_assoc]) e2.symm, ?_, by rw [List.length_append]; omega, HB3.out, HO3.out⟩, by show n - ((k : Int) + 1).toNat < n - (k : Int).toNat; omega⟩
        intro h
        rw [e2] at h
        rw [stepsB_succ ts k t HT.out, HYs.out (by first | rfl | trivial), HZ3.out h, List.append_assoc]
    · obtain rfl : k = n := by omega
      clear hp hb
      go_wp2_with fail
      go_end0
      have e1 : ts.take k = ts := List.take_of_length_le (by rw [HN.out]; omega)
      have h := HPk.out
      have h2 := HYs.out
      rw [e1] at h h2
      exact ⟨rfl, ⟨ys, h, h2, by omega⟩, HB.out, HOr.out⟩

/-- a path in memory -/
structure PathT where
  leaf : NodeD
  A : Option Addr
  c : Nat
  steps : List StepT
  As : Option Addr
  cs : Nat
def PathT.cells (p : PathT) : List Value := nodeC p.leaf p.A p.c ++ [.slice p.As p.steps.length p.cs]
structure RdP (w : World) (B : Nat) (p : PathT) : Prop where
  leaf : p.leaf.Ok
  um : Rd cI w B p.A p.leaf.um
  uml : p.leaf.um.length ≤ 300
  steps : RdS w B p.As p.steps
  len : p.steps.length ≤ 9223372036854775807
theorem RdP.below {w w' : World} {B : Nat} {p : PathT} (h : RdP w B p) (hb : Below B w w') : RdP w' B p := ⟨h.leaf, h.um.below hb, h.uml, h.steps.below hb, h.len⟩
theorem pathC_len {p : PathT} (h : p.leaf.Ok) : p.cells.length = 100 := by simp [PathT.cells, nodeC_len h]
theorem pathC_one (p : PathT) : ∀ u ∈ p.cells, u.oneCell' = true := by
  intro u hu
  simp only [PathT.cells, List.mem_append, List.mem_singleton] at hu
  rcases hu with h | rfl
  · exact nodeC_one _ _ _ u h
  · rfl
theorem infoPath : (Try.prog.info? 80).map (·.size) = some 100 := by kernel_rfl
def pathB (p : PathT) : List (BitVec 8) := nodeB p.leaf ++ (be p.steps.length 1 ++ stepsB p.steps)
def pathBad (p : PathT) : Bool := nodeBad p.leaf || outOf p.steps.length 5 || stepsBad p.steps
set_option maxRecDepth 100000 in
set_option maxHeartbeats 2000000 in
theorem pathO_any {w : World} {B g : Nat} {xs : List (BitVec 8)} {bad : Bool} (hP : Pen w B g xs bad) {B' : Nat} {p : PathT} (hr : RdP w B' p) (hB' : B' ≤ B) (hx : xs.length ≤ 9000000) :
    Calls Try.prog 83 #[.pointer (some ⟨g, 0, none⟩), .agg p.cells.toArray] w fun e w' => e = .returned (.tuple #[]) ∧ (∃ ys, Pen w' B g (xs ++ ys) (bad || pathBad p) ∧ ((bad || pathBad p) = false → ys = pathB p) ∧ ys.length ≤ 84000000) ∧ Below B w w' ∧ Oth w w' := by
  have HR := Lib.hid hr
  have HP0 := Lib.hid (hP.alloc (.cells p.cells.toArray 80))
  have HBx0 := Lib.hid (Blk.new w 80 p.cells)
  have HW0 := Lib.hid ((Below.refl B w).alloc hP.size (.cells p.cells.toArray 80))
  have HO0 := Lib.hid ((Oth.refl w).alloc (.cells p.cells.toArray 80))
  have hs0 := World.size_alloc w (.cells p.cells.toArray 80)
  have hsz := hP.size
  have HCk := Lib.hid (fun (W : World) (h : Blk W w.heap.size 80 p.cells) => (show W.rangeAt w.heap.size 0 (nodeC p.leaf p.A p.c) from h.piece (pre := []) rfl rfl))
  have HCs := Lib.hid (fun (W : World) (h : Blk W w.heap.size 80 p.cells) => (show W.cell? ⟨w.heap.size, 99, none⟩ = some (.slice p.As p.steps.length p.cs) from h.one (pre := nodeC p.leaf p.A p.c) (post := []) rfl (nodeC_len hr.leaf _ _)))
  have HLn := Lib.hid (nodeC_len hr.leaf p.A p.c)
  clear hP hr
  go_enter Try.func83, Try.ntmps83
  go_wp2_with (refine wpList_load_mid rfl 50 (.tmp 5) rfl w.heap.size 0 rfl (nodeC p.leaf p.A p.c) _ (HCk.out _ HBx0.out) Try.underlying50 rfl (by rw [HLn.out]; exact infoNode) ?_)
  generalize World.alloc w _ = w0 at HP0 HBx0 HW0 HO0 hs0 ⊢
  refine (nodeO_any HP0.out p.leaf HR.out.leaf (HR.out.um.below (HW0.out.mono hB')) hB' (by have := HR.out.uml; omega) (by omega)).mono ?_
  rintro e w1 ⟨rfl, ⟨zs, hp1, hz1, hl1⟩, hb1, ho1⟩
  have HZ1 := Lib.hid hz1
  clear hz1
  have HP1 := Lib.hid hp1
  have HBx1 := Lib.hid (ho1 _ _ _ (by decide) (by decide) HBx0.out)
  have HW1 := Lib.hid (HW0.out.trans hb1)
  have HO1 := Lib.hid (HO0.out.trans ho1)
  clear hp1 hb1 ho1
  have c99 := HCs.out _ HBx1.out
  have huml := HR.out.uml
  go_wp2_with fail
  refine (listStep_any HP1.out (HR.out.steps.below (HW1.out.mono hB')) hB' rfl HR.out.len (by rw [List.length_append]; omega)).mono ?_
  rintro e w2 ⟨rfl, ⟨ys, hp2, hy2, hl2⟩, hb2, ho2⟩
  have HP2 := Lib.hid hp2
  have HW2 := Lib.hid (HW1.out.trans hb2)
  have HO2 := Lib.hid (HO1.out.trans ho2)
  have HY2 := Lib.hid hy2
  clear hp2 hb2 ho2 hy2 c99
  go_wp2_with fail
  go_end0
  refine ⟨rfl, ⟨zs ++ ys, HP2.out.cast (by simp only [List.append_assoc]) (by unfold pathBad; simp only [Bool.or_assoc]), ?_, by rw [List.length_append]; omega⟩, HW2.out, HO2.out⟩
  intro h
  unfold pathBad at h
  rw [HY2.out (by simp only [Bool.or_assoc] at h ⊢; exact h), HZ1.out (by simp only [Bool.or_eq_false_iff] at h ⊢; exact ⟨h.1, h.2.1.1⟩)]
  rfl
end Go.Proofs.Ytloglpamnalmeaa
