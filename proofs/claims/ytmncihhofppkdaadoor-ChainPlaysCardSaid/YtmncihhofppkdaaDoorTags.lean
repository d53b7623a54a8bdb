/- CONTRACT: kdf.tags: the function that it makes. -/
import Derived.Test.YtmncihhofppkdaaDoorRefExp
import Derived.Test.YtmncihhofppkdaaDoorChunk
namespace Go.Proofs.YtmncihhofppkdaaDoor
open Go.RowKit
set_option linter.unusedVariables false
set_option linter.unusedSimpArgs false

theorem tags_any (A1 A2 : Option Addr) (n1 c1 n2 c2 : Nat) (w : World) :
    Calls Tryd.prog 62 #[.slice A1 n1 c1, .slice A2 n2 c2] w fun e w' => e = .returned (.func (.func 68) #[] #[.pointer (some ⟨w.heap.size, 0, none⟩), .pointer (some ⟨w.heap.size + 1, 0, none⟩)]) ∧
      w' = (w.alloc (.cells #[.slice A1 n1 c1] 30)).alloc (.cells #[.slice A2 n2 c2] 30) := by
  go_enter Tryd.func62, Tryd.ntmps62
  go_wp2_with fail
  go_ret
  exact ⟨rfl, rfl⟩
/-- what a loop over the tags is handed: a tag's number, from one on -/
abbrev Ti := { i : Nat // 1 ≤ i ∧ i ≤ 255 }
def encT (key inf : List (BitVec 8)) (x : Ti) : Array Value := #[arrV b8 (tagI key inf x.1)]
/-- what the loop's body leaves as it was: all that came in, and all cells but its own two blocks -/
def KpT (n₀ e1 e2 : Nat) (A B : World) : Prop := Below n₀ A B ∧ ∀ g o, A.heap[g]? = some o → o.isCells = true → g ≠ e1 → g ≠ e2 → B.heap[g]? = some o
theorem KpT.t {n₀ e1 e2 : Nat} {A B C : World} (h : KpT n₀ e1 e2 A B) (k : KpT n₀ e1 e2 B C) : KpT n₀ e1 e2 A C :=
  ⟨h.1.trans k.1, fun g o hg hc h1 h2 => k.2 g o (h.2 g o hg hc h1 h2) hc h1 h2⟩
theorem KpT.of_below {n₀ e1 e2 : Nat} {A B : World} (h : Below A.heap.size A B) (hn : n₀ ≤ A.heap.size) : KpT n₀ e1 e2 A B := ⟨h.mono hn, fun g o hg _ _ _ => (h.block g (Array.getElem?_eq_some_iff.1 hg).1).trans hg⟩
theorem KpT.put {n₀ e1 e2 W0 l : Nat} {W : World} {o o' : Obj} (hl : W0 ≤ l) (hn : n₀ ≤ W0) (ho : W.heap[l]? = some o) (hc : o.isCells = false) : KpT n₀ e1 e2 W (W.putObj l o') :=
  ⟨(Below.refl _ W).grown (grownBy_putObj' W l o') (by have := (Array.getElem?_eq_some_iff.1 ho).1; omega) (fun k e => by cases e; omega), fun g u hg hu _ _ => by
    have hne : g ≠ l := fun e => by subst e; rw [hg] at ho; cases ho; rw [hu] at hc; cases hc
    rw [World.putObj_heap_other hne]; exact hg⟩
theorem KpT.arr {α : Type} {f : α → Value} {T : TypeId} {xs : List α} {n₀ e1 e2 g : Nat} {A B : World} (h : KpT n₀ e1 e2 A B) (ha : Arr f A g T xs) (h1 : g ≠ e1) (h2 : g ≠ e2) : Arr f B g T xs := h.2 g _ ha rfl h1 h2
theorem KpT.box {n₀ e1 e2 g : Nat} {t : TypeId} {v : Value} {A B : World} (h : KpT n₀ e1 e2 A B) (ha : Boxed A g t v) (h1 : g ≠ e1) (h2 : g ≠ e2) : Boxed B g t v := h.2 g _ ha rfl h1 h2
/-- the tag that came last -/
def LastT (W0 : Nat) (w : World) (v : Value) (key inf : List (BitVec 8)) (k : Nat) : Prop :=
  (k = 0 ∧ v = .slice none 0 0) ∨ ∃ g, v = .slice (some ⟨g, 0, none⟩) 32 32 ∧ 0 < k ∧ W0 ≤ g ∧ Arr b8 w g 23 (tagI key inf k)
theorem LastT.rd {W0 : Nat} {w : World} {v : Value} {key inf : List (BitVec 8)} {k : Nat} (h : LastT W0 w v key inf k) : ∃ A T, v = .slice A T T ∧ T = (tagI key inf k).length ∧ Rd b8 w w.heap.size A (tagI key inf k) := by
  rcases h with ⟨rfl, rfl⟩ | ⟨g, rfl, hk, -, ha⟩
  · exact ⟨none, 0, rfl, rfl, Rd.nil_ _ _ _ _⟩
  · obtain ⟨j, rfl⟩ : ∃ j, k = j + 1 := ⟨k - 1, by omega⟩
    exact ⟨_, 32, rfl, (tagI_len _ _ _).symm, (ha.rd 0).more ha.lt⟩

set_option maxRecDepth 100000 in
set_option maxHeartbeats 2000000 in
theorem tags1_in (m : Nat) (hm : 3 ≤ m) (l b1 b2 e1 e2 n₀ n1 c1 n2 c2 : Nat) (A1 A2 : Option Addr) (key inf : List (BitVec 8)) (hn1 : n1 = key.length) (hn2 : n2 = inf.length) (hq1 : n1 ≤ 100000) (hq2 : n2 ≤ 100000) (J Jx : List Ti → World → Prop) (W : World) (hJ : AbidesFrom W.heap.size J)
    (hY : ∀ pre y W1, J pre W1 → pre.length < 255 → YieldAt Fence.wide (m - 1) Tryd.prog l (encT key inf y) W1 fun e W' =>
      (e = .returned (.bool true) ∧ J (pre ++ [y]) W' ∧ KpT n₀ e1 e2 W1 W') ∨ (e = .returned (.bool false) ∧ Jx (pre ++ [y]) W'))
    (hb1 : Boxed W b1 30 (.slice A1 n1 c1)) (hb2 : Boxed W b2 30 (.slice A2 n2 c2)) (hr1 : Rd b8 W n₀ A1 key) (hr2 : Rd b8 W n₀ A2 inf) (hn₀ : n₀ ≤ W.heap.size)
    (he1 : n₀ ≤ e1 ∧ e1 < W.heap.size) (he2 : n₀ ≤ e2 ∧ e2 < W.heap.size) (hbe : b1 ≠ e1 ∧ b1 ≠ e2 ∧ b2 ≠ e1 ∧ b2 ≠ e2) (h0 : J [] W) :
    CallsIn Fence.wide m Tryd.prog 68 #[.func (.yield l) #[] #[], .pointer (some ⟨b1, 0, none⟩), .pointer (some ⟨b2, 0, none⟩)] W fun e W' => (∃ v, e = .returned v) ∧
      ((∃ ys : List Ti, ys.map Subtype.val = List.range' 1 255 ∧ J ys W') ∨ (∃ pre : List Ti, (∃ k, pre.map Subtype.val = List.range' 1 k) ∧ Jx pre W')) := by
  refine callsIn_of_wp Tryd.func68 rfl trivial ?_ rfl
  simp only [Tryd.ntmps68, List.size_toArray, List.length_cons, List.length_nil, Nat.reduceAdd, Nat.reduceSub, Array.replicate_succ, Array.replicate_zero, List.push_toArray, List.append_toArray, List.nil_append, List.cons_append]
  have HJ := Lib.hid hJ
  have HY := Lib.hid hY
  have H0 := Lib.hid h0
  have HB1 := Lib.hid hb1
  have HB2 := Lib.hid hb2
  have R1 := Lib.hid hr1
  have R2 := Lib.hid hr2
  have H1 := Lib.hid hn1
  have H2 := Lib.hid hn2
  have HBe := Lib.hid hbe
  have hm1 : 1 ≤ m := by omega
  have hm2 : 1 ≤ m - 1 := by omega
  clear hJ hY h0 hb1 hb2 hr1 hr2 hn1 hn2 hbe
  gi_wp2_with fail
  gi_loopw [4, 5] (fun vl vi wr => ∃ (k : Nat) (pre : List Ti), k ≤ 254 ∧ vi = .int .u8 ((k : Int) + 1) ∧ pre.map Subtype.val = List.range' 1 k ∧ J pre wr ∧ LastT W.heap.size wr vl key inf k ∧ Boxed wr b1 30 (.slice A1 n1 c1) ∧ Boxed wr b2 30 (.slice A2 n2 c2) ∧ Rd b8 wr n₀ A1 key ∧ Rd b8 wr n₀ A2 inf ∧ W.heap.size ≤ wr.heap.size) (fun _ vi _ => (256 - intOf vi).toNat)
  case atStart => exact ⟨0, [], by omega, by simp, rfl, H0.out, .inl ⟨rfl, rfl⟩, HB1.out, HB2.out, R1.out, R2.out, Nat.le_refl _⟩
  case round =>
    obtain ⟨k, pre, hk, rfl, hpre, hJs, hla, hb1, hb2, hr1, hr2, hz⟩ := hrel
    obtain ⟨Al, T, rfl, hT, hrl⟩ := hla.rd
    have hTb : T ≤ 32 := by rw [hT]; exact tagI_le _ _ _
    obtain ⟨S, hS⟩ : ∃ S, S = tagI key inf (k + 1) := ⟨_, rfl⟩
    have HSl := Lib.hid (show S.length = 32 by rw [hS]; exact tagI_len _ _ _)
    have hx : b8 (BitVec.ofInt 8 ((k : Int) + 1)) = .int .u8 ((k : Int) + 1) := by unfold b8 bv; rw [BitVec.toNat_ofInt]; congr 1; omega
    have hRx : Rd b8 (wr.alloc (.cells #[.int .u8 ((k : Int) + 1)] 5)) (wr.heap.size + 1) (some ⟨wr.heap.size, 0, none⟩) [BitVec.ofInt 8 ((k : Int) + 1)] := by have h := Rd.new b8 wr 5 [BitVec.ofInt 8 ((k : Int) + 1)]; simp only [List.map_cons, List.map_nil, hx] at h; exact h
    have hn0r : n₀ ≤ wr.heap.size := by omega
    have hc := tag_three (wr.alloc (.cells #[.int .u8 ((k : Int) + 1)] 5)) n₀ n1 c1 (wr.heap.size + 1) T T n2 c2 1 1 A1 Al A2 (some ⟨wr.heap.size, 0, none⟩) key (tagI key inf k) inf _ (hr1.alloc hn0r _) (by simp; omega) H1.out (by rw [← H1.out]; omega) ((hrl.alloc (Nat.le_refl _) _).more (by simp)) ((hr2.alloc hn0r _).more (by omega)) hRx (by simp) hT H2.out rfl (by rw [← hT, ← H2.out]; simp; omega)
    rw [arrV_mk, World.size_alloc, show tagV key (tagI key inf k ++ inf ++ [BitVec.ofInt 8 ((k : Int) + 1)]) = tagI key inf (k + 1) from rfl, ← hS] at hc
    have HC := Lib.hid hc
    have c1' := hb1.cell
    have c2' := hb2.cell
    have HBx := Lib.hid hb1
    have HBy := Lib.hid hb2
    have HR1 := Lib.hid hr1
    have HR2 := Lib.hid hr2
    have HLa := Lib.hid hla
    have HJs := Lib.hid hJs
    have Hpre := Lib.hid hpre
    have HSe := Lib.hid hS
    clear hb1 hb2 hr1 hr2 hla hJs hpre hS hx hRx hc hT hrl
    gi_wp2_with fail
    refine ⟨trivial, ?_⟩
    refine (callsIn_wide.2 HC.out).mono ?_
    rintro e w1 ⟨rfl, hb1⟩
    have hs1 : wr.heap.size + 1 ≤ w1.heap.size := by have := hb1.size; rw [World.size_alloc] at this; exact this
    have HW1 := Lib.hid (show Below wr.heap.size wr w1 from ((Below.refl _ wr).alloc (Nat.le_refl _) _).trans (hb1.mono (by omega)))
    have HZ1 := Lib.hid (Arr.new b8 w1 23 (List.replicate 32 0#8))
    clear hb1 HC c1' c2'
    gi_wp2_with (first
      | (refine wpListIn_store_arr rfl 23 (.tmp 6) (.tmp 15) rfl w1.heap.size rfl S rfl _ _ HZ1.out (by rw [HSl.out]; rfl) (by rw [size32, HSl.out]) b8_one' ?_; intro w2 hp2 hg2; have HP2 := Lib.hid hp2; have HW2 := Lib.hid (show Below wr.heap.size wr w2 from (HW1.out.alloc (by omega) _).grown hg2 (by simp; omega) (fun k e => by cases e; omega)); clear hp2 hg2; obtain ⟨fn, tmps, assign, body, hy, hR⟩ := HY.out pre ⟨k + 1, by omega, by omega⟩ w2 (HJ.out _ _ _ none HJs.out (grown_none2 HW2.out) (fun r e => by cases e)) (by have := congrArg List.length Hpre.out; rw [List.length_map, List.length_range'] at this; omega); dsimp only [encT] at hy; rw [← HSe.out, arrV_mk] at hy; have HRn := Lib.hid hR; clear hR)
      | refine wpListIn_load_arr rfl 23 (.tmp 6) rfl w1.heap.size rfl _ S HP2.out _ Tryd.underlying23 rfl (by rw [size32, HSl.out]) ?_)
    have hz2 : w1.heap.size < w2.heap.size := HP2.out.lt
    have HLs := Lib.hid (show (pre ++ [(⟨k + 1, by omega, by omega⟩ : Ti)]).map Subtype.val = List.range' 1 (k + 1) by rw [List.map_append, Hpre.out, List.range'_concat]; simp; omega)
    refine HRn.out.mono ?_
    rintro e w3 (⟨rfl, hJ3, hk3⟩ | ⟨rfl, hJx3⟩)
    · have hz3 := hk3.1.size
      have HJ3 := Lib.hid hJ3
      have HA3 := Lib.hid (hk3.arr HP2.out (by omega) (by omega))
      have HX3 := Lib.hid (hk3.box (boxed_bl HBx.out HW2.out) HBe.out.1 HBe.out.2.1)
      have HY3 := Lib.hid (hk3.box (boxed_bl HBy.out HW2.out) HBe.out.2.2.1 HBe.out.2.2.2)
      have hbw : Below n₀ w2 w3 := hk3.1
      have HR13 := Lib.hid ((HR1.out.below (HW2.out.mono hn0r)).below hbw)
      have HR23 := Lib.hid ((HR2.out.below (HW2.out.mono hn0r)).below hbw)
      clear hJ3 hk3 hbw HJs HBx HBy HR1 HR2 HW2 HP2 HRn HZ1 HW1
      by_cases hk254 : k = 254
      · subst hk254
        gi_wp2_with fail
        refine bodyPost_ret (results_none rfl _ _ _) rfl ?_
        exact ⟨⟨_, rfl⟩, .inl ⟨_, HLs.out, HJ3.out⟩⟩
      · have hk255 : ¬ ((k : Int) + 1 = 255) := by omega
        have hk3 : (k : Int) + 1 ≤ 254 := by omega
        gi_wp2_with fail
        go_roundw
        case rel =>
          exact ⟨k + 1, pre ++ [⟨k + 1, by omega, by omega⟩], by omega, by simp, HLs.out, HJ3.out, .inr ⟨w1.heap.size, rfl, by omega, by omega, HA3.out.cast HSe.out⟩, HX3.out, HY3.out, HR13.out, HR23.out, by omega⟩
        case measure => simp [intOf]; omega
    · gi_wp2_with fail
      refine bodyPost_ret (results_none rfl _ _ _) rfl ?_
      exact ⟨⟨_, rfl⟩, .inr ⟨_, ⟨k + 1, HLs.out⟩, hJx3⟩⟩
theorem tags_stops (m : Nat) (hm : 3 ≤ m) (b1 b2 e1 e2 n₀ n1 c1 n2 c2 : Nat) (A1 A2 : Option Addr) (key inf : List (BitVec 8)) (hn1 : n1 = key.length) (hn2 : n2 = inf.length) (hq1 : n1 ≤ 100000) (hq2 : n2 ≤ 100000) (w : World)
    (hb1 : Boxed w b1 30 (.slice A1 n1 c1)) (hb2 : Boxed w b2 30 (.slice A2 n2 c2)) (hr1 : Rd b8 w n₀ A1 key) (hr2 : Rd b8 w n₀ A2 inf) (hn₀ : n₀ ≤ w.heap.size)
    (he1 : n₀ ≤ e1 ∧ e1 < w.heap.size) (he2 : n₀ ≤ e2 ∧ e2 < w.heap.size) (hbe : b1 ≠ e1 ∧ b1 ≠ e2 ∧ b2 ≠ e1 ∧ b2 ≠ e2) :
    SeqStopsK Fence.wide m Tryd.prog 68 #[.pointer (some ⟨b1, 0, none⟩), .pointer (some ⟨b2, 0, none⟩)] (fun x : Ti => encT key inf x) (KpT n₀ e1 e2) (fun ys => ys.map Subtype.val = List.range' 1 255) (fun pre => ∃ k, pre.map Subtype.val = List.range' 1 k) 255 w := fun l J Jx W hW hJ _ hY h0 =>
  tags1_in m hm l b1 b2 e1 e2 n₀ n1 c1 n2 c2 A1 A2 key inf hn1 hn2 hq1 hq2 J Jx W hJ hY (boxed_bl hb1 hW) (boxed_bl hb2 hW) (hr1.below (hW.mono hn₀)) (hr2.below (hW.mono hn₀)) (Nat.le_trans hn₀ hW.size) ⟨he1.1, Nat.lt_of_lt_of_le he1.2 hW.size⟩ ⟨he2.1, Nat.lt_of_lt_of_le he2.2 hW.size⟩ hbe h0
end Go.Proofs.YtmncihhofppkdaaDoor
