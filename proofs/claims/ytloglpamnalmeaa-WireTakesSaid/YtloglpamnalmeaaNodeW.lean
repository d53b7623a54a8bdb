/- CONTRACT: wire.node. -/
import Derived.Test.YtloglpamnalmeaaBlank
import Derived.Test.YtloglpamnalmeaaNodeA
namespace Go.Proofs.Ytloglpamnalmeaa
open Go.RowKit
set_option linter.unusedVariables false
set_option linter.unusedSimpArgs false

theorem rd_of_range {α : Type} {f : α → Value} {w : World} {b off : Nat} {xs : List α} (h : w.rangeAt b off (xs.map f)) : Rd f w (b + 1) (some ⟨b, off, none⟩) xs := fun _ =>
  ⟨b, off, rfl, by omega, fun j u hu => h j (f u) (by rw [List.getElem?_map, hu]; rfl)⟩
theorem i64_wf {z : Int} (h : (Lit.int .i64 z).wf = true) : -9223372036854775808 ≤ z ∧ z < 9223372036854775808 := by
  simp only [Lit.wf, Bool.and_eq_true, decide_eq_true_eq] at h
  have h1 : (-9223372036854775808 : Int) ≤ z := h.1
  have h2 : z ≤ (9223372036854775807 : Int) := h.2
  omega
def usedB (u : Bool) : BitVec 8 := if u then 1 else 0
def nodeBad (x : NodeD) : Bool := (!x.used && !zeroN x) || !riseB x.um || outOf x.name 255 || outOf x.um.length 32 || out31 x.um
def nodeB (x : NodeD) : List (BitVec 8) := [usedB x.used] ++ (be x.name 1 ++ (x.key ++ (x.sign ++ (x.par ++ (be x.um.length 1 ++ onesB x.um)))))
theorem nodeB_len {x : NodeD} (h : x.Ok) : (nodeB x).length = 99 + x.um.length := by simp [nodeB, be_len, onesB_len, h.key, h.sign, h.par]; omega
theorem NodeD.Ok.name' {x : NodeD} (h : x.Ok) : -9223372036854775808 ≤ x.name ∧ x.name < 9223372036854775808 := by
  exact i64_wf h.name
theorem NodeD.Ok.um' {x : NodeD} (h : x.Ok) : ∀ z ∈ x.um, -9223372036854775808 ≤ z ∧ z < 9223372036854775808 := by
  intro z hz
  exact i64_wf (h.um z hz)
theorem one_b8 (u : Bool) : [Value.int .u8 (if u then 1 else 0)] = [usedB u].map b8 := by cases u <;> rfl
theorem nodeC_whole {w : World} {g : Nat} {T : TypeId} {x : NodeD} {A : Option Addr} {c : Nat} (h : Blk w g T (nodeC x A c)) (hx : x.Ok) : w.rangeAt g 0 (nodeC x A c) := by
  have := h.range 0 99
  rwa [List.drop_zero, List.take_of_length_le (by rw [nodeC_len hx]; omega)] at this
set_option maxRecDepth 100000 in
set_option maxHeartbeats 2000000 in
theorem nodeO_any {w : World} {B g : Nat} {xs : List (BitVec 8)} {bad : Bool} (hP : Pen w B g xs bad) (x : NodeD) (hx : x.Ok) {B' : Nat} {A : Option Addr} {c : Nat} (hr : Rd cI w B' A x.um) (hB' : B' ≤ B) (hy : x.um.length ≤ 1000000) (hl : xs.length ≤ 10000000) :
    Calls Try.prog 64 #[.pointer (some ⟨g, 0, none⟩), .agg (nodeC x A c).toArray] w fun e w' => e = .returned (.tuple #[]) ∧ (∃ ys, Pen w' B g (xs ++ ys) (bad || nodeBad x) ∧ ((bad || nodeBad x) = false → ys = nodeB x) ∧ ys.length ≤ 99 + x.um.length) ∧ Below B w w' ∧ Oth w w' := by
  have HX := Lib.hid hx
  have HR := Lib.hid hr
  have HP := Lib.hid (hP.alloc (.cells (nodeC x A c).toArray 50))
  have HBx := Lib.hid (show Blk (w.alloc (.cells (nodeC x A c).toArray 50)) w.heap.size 50 (nodeC x A c) from Blk.new w _ _)
  have HB := Lib.hid ((Below.refl B w).alloc hP.size (.cells (nodeC x A c).toArray 50))
  have HO := Lib.hid ((Oth.refl w).alloc (.cells (nodeC x A c).toArray 50))
  have hsz := hP.size
  have k0 := nodeC_used HBx.out
  have k1 := nodeC_name HBx.out
  have k98 := nodeC_um HBx.out hx
  obtain ⟨u, hu⟩ : ∃ u, u = x.used := ⟨_, rfl⟩
  obtain ⟨z, hz⟩ : ∃ z, z = zeroN x := ⟨_, rfl⟩
  obtain ⟨r, hrr⟩ : ∃ r, r = riseB x.um := ⟨_, rfl⟩
  obtain ⟨n, hn⟩ : ∃ n, n = x.um.length := ⟨_, rfl⟩
  have HBl := Lib.hid (fun W => blank_any x hx A c W)
  have HRi := Lib.hid (fun (W : World) (h : Rd cI W B' A x.um) (h2 : B' ≤ W.heap.size) => rising_any (n := x.um.length) (c := c) h h2 rfl hy)
  rw [← hz] at HBl
  rw [← hrr, ← hn] at HRi
  rw [← hu] at k0
  rw [← hn] at k98 hy
  have HU := Lib.hid hu
  have HZ := Lib.hid hz
  have HRr := Lib.hid hrr
  have HN := Lib.hid hn
  have HNB := Lib.hid (show nodeBad x = ((!u && !z) || !r || outOf x.name 255 || outOf n 32 || out31 x.um) by rw [hu, hz, hrr, hn]; rfl)
  clear hP hx hr hu hz hrr hn
  cases u with
  | true =>
    cases r with
    | true =>
      go_enter Try.func64, Try.ntmps64
      go_wp2_with fail
      refine (HRi.out _ (HR.out.below (HB.out.mono hB')) (by have := HB.out.size; omega)).mono ?_
      rintro e w2 ⟨rfl, hb2⟩
      have HB2 := Lib.hid hb2
      clear hb2
      have HP2 := Lib.hid (HP.out.below HB2.out (Nat.le_refl _))
      have HBx2 := Lib.hid (HBx.out.below HB2.out HBx.out.lt)
      have HW2 := Lib.hid (show Below B w w2 from HB.out.trans (HB2.out.mono (by have := HB.out.size; omega)))
      have HO2 := Lib.hid (show Oth w w2 from fun k T cs a b c => (HO.out k T cs a b c).below HB2.out (HO.out k T cs a b c).lt)
      have HP3 := HP2
      have HBx3 := HBx2
      have HW3 := HW2
      have HO3 := HO2
      have HF := Lib.hid (show ∀ W4, (w2).alloc (.cells #[.int .u8 (bv (usedB true))] 5) = W4 → Pen W4 B g xs (bad) ∧ Blk W4 w.heap.size 50 (nodeC x A c) ∧ Below B w W4 ∧ Oth w W4 ∧ Rd b8 W4 W4.heap.size (some ⟨w2.heap.size, 0, none⟩) [usedB true] by
        rintro W4 rfl
        refine ⟨HP3.out.alloc _, HBx3.out.alloc _, HW3.out.alloc (by have := HP3.out.size; omega) _, HO3.out.alloc _, ?_⟩
        have hh := (Rd.new b8 (w2) 5 [usedB true]).more (B' := ((w2).alloc (.cells #[.int .u8 (bv (usedB true))] 5)).heap.size) (by simp)
        have e : (w2).heap.size = w2.heap.size := by simp
        rw [e] at hh
        exact hh)
      go_wp2_with fail
      generalize hW4 : World.alloc _ _ = W4
      obtain ⟨hp4, hbx4, hw4, ho4, hr4⟩ := HF.out W4 hW4
      clear hW4 HF
      have HP4 := Lib.hid hp4
      have HBx4 := Lib.hid hbx4
      have HW4 := Lib.hid hw4
      have HO4 := Lib.hid ho4
      have HR4 := Lib.hid hr4
      have h98 := k98
      clear k0 k1 k98
      clear hp4 hbx4 hw4 ho4 hr4
      refine (bytesO_any HP4.out HR4.out (Nat.le_refl _) (n := 1) rfl (by omega) (by omega)).mono ?_
      rintro e w5 ⟨rfl, hp5, hb5, ho5⟩
      have HP5 := Lib.hid hp5
      have HBx5 := Lib.hid (ho5 _ _ _ (by decide) (by decide) HBx4.out)
      have HW5 := Lib.hid (HW4.out.trans hb5)
      have HO5 := Lib.hid (HO4.out.trans ho5)
      have k1 := nodeC_name HBx5.out
      clear hp5 hb5 ho5
      go_wp2_with fail
      refine (numberO_in HP5.out x.name 1 1 rfl 255 HX.out.name'.1 HX.out.name'.2 (by omega) (by simp only [List.length_append, be_len, HX.out.key, HX.out.sign, HX.out.par, List.length_cons, List.length_nil]; omega)).mono ?_
      clear k1
      rintro e w6 ⟨rfl, hp6, hb6, ho6⟩
      have HP6 := Lib.hid hp6
      have HBx6 := Lib.hid (ho6 _ _ _ (by decide) (by decide) HBx5.out)
      have HW6 := Lib.hid (HW5.out.trans hb6)
      have HO6 := Lib.hid (HO5.out.trans ho6)
      have hz6 : w.heap.size + 1 ≤ w6.heap.size := HBx6.out.lt
      clear hp6 hb6 ho6
      go_wp2_with fail
      refine (bytesO_any HP6.out (rd_of_range (nodeC_key HBx6.out HX.out)) hz6 HX.out.key (by simp only [List.length_append, be_len, HX.out.key, HX.out.sign, HX.out.par, List.length_cons, List.length_nil]; omega) (by omega)).mono ?_
      rintro e w7 ⟨rfl, hp7, hb7, ho7⟩
      have HP7 := Lib.hid hp7
      have HBx7 := Lib.hid (ho7 _ _ _ (by decide) (by decide) HBx6.out)
      have HW7 := Lib.hid (HW6.out.trans hb7)
      have HO7 := Lib.hid (HO6.out.trans ho7)
      have hz7 : w.heap.size + 1 ≤ w7.heap.size := HBx7.out.lt
      clear hp7 hb7 ho7
      go_wp2_with fail
      refine (bytesO_any HP7.out (rd_of_range (nodeC_sign HBx7.out HX.out)) hz7 HX.out.sign (by simp only [List.length_append, be_len, HX.out.key, HX.out.sign, HX.out.par, List.length_cons, List.length_nil]; omega) (by omega)).mono ?_
      rintro e w8 ⟨rfl, hp8, hb8, ho8⟩
      have HP8 := Lib.hid hp8
      have HBx8 := Lib.hid (ho8 _ _ _ (by decide) (by decide) HBx7.out)
      have HW8 := Lib.hid (HW7.out.trans hb8)
      have HO8 := Lib.hid (HO7.out.trans ho8)
      have hz8 : w.heap.size + 1 ≤ w8.heap.size := HBx8.out.lt
      clear hp8 hb8 ho8
      go_wp2_with fail
      refine (bytesO_any HP8.out (rd_of_range (nodeC_par HBx8.out HX.out)) hz8 HX.out.par (by simp only [List.length_append, be_len, HX.out.key, HX.out.sign, HX.out.par, List.length_cons, List.length_nil]; omega) (by omega)).mono ?_
      rintro e w9 ⟨rfl, hp9, hb9, ho9⟩
      have HP9 := Lib.hid hp9
      have HBx9 := Lib.hid (ho9 _ _ _ (by decide) (by decide) HBx8.out)
      have HW9 := Lib.hid (HW8.out.trans hb9)
      have HO9 := Lib.hid (HO8.out.trans ho9)
      clear hp9 hb9 ho9
      have k98 := nodeC_um HBx9.out HX.out
      rw [← HN.out] at k98
      go_wp2_with fail
      refine (listNO_any HP9.out (HR.out.below (HW9.out.mono hB')) hB' HN.out.symm hy HX.out.um' (by simp only [List.length_append, be_len, HX.out.key, HX.out.sign, HX.out.par, List.length_cons, List.length_nil]; omega)).mono ?_
      clear k98
      rintro e w10 ⟨rfl, ⟨zs, hp10, hz10, hl10⟩, hb10, ho10⟩
      have HP10 := Lib.hid hp10
      have HZ10 := Lib.hid hz10
      have HW10 := Lib.hid (HW9.out.trans hb10)
      have HO10 := Lib.hid (HO9.out.trans ho10)
      clear hp10 hb10 ho10 hz10
      go_wp2_with fail
      go_end0
      refine ⟨rfl, ⟨[usedB true] ++ (be x.name 1 ++ (x.key ++ (x.sign ++ (x.par ++ zs)))), HP10.out.cast (by simp only [List.append_assoc]) ?_, ?_, ?_⟩, HW10.out, HO10.out⟩
      · rw [HNB.out]; simp [Bool.or_assoc]
      · intro hh
        rw [HZ10.out (by rw [← hh, HNB.out]; simp [Bool.or_assoc])]
        rw [nodeB, ← HU.out, ← HN.out]
      · simp only [List.length_append, be_len, HX.out.key, HX.out.sign, HX.out.par, List.length_cons, List.length_nil]; rw [← HN.out]; omega
    | false =>
      go_enter Try.func64, Try.ntmps64
      go_wp2_with fail
      refine (HRi.out _ (HR.out.below (HB.out.mono hB')) (by have := HB.out.size; omega)).mono ?_
      rintro e w2 ⟨rfl, hb2⟩
      have HB2 := Lib.hid hb2
      clear hb2
      have HP2 := Lib.hid (HP.out.below HB2.out (Nat.le_refl _))
      have HBx2 := Lib.hid (HBx.out.below HB2.out HBx.out.lt)
      have HW2 := Lib.hid (show Below B w w2 from HB.out.trans (HB2.out.mono (by have := HB.out.size; omega)))
      have HO2 := Lib.hid (show Oth w w2 from fun k T cs a b c => (HO.out k T cs a b c).below HB2.out (HO.out k T cs a b c).lt)
      have HP3 := Lib.hid (HP2.out.setBad true)
      obtain ⟨v2, h1, h2⟩ := HP2.out.at_
      have c1 := h1.cell 1 rfl
      have f1 := h1.frozen 1
      have HBx3 := Lib.hid (HBx2.out.far (p := ⟨g, 1, none⟩) (by have h := HBx2.out; have h' := h1; rintro rfl; have := h.symm.trans h'; simp only [Option.some.injEq, Obj.cells.injEq] at this; exact absurd this.2.1 (by decide)) (.bool true))
      have HW3 := Lib.hid (HW2.out.setCell (p := ⟨g, 1, none⟩) HP2.out.le (.bool true))
      have HO3 := Lib.hid (HO2.out.trans (Oth.set_ (k0 := 1) (u := .bool true) h1))
      clear h1 h2
      have HF := Lib.hid (show ∀ W4, (w2.setCell ⟨g, 1, none⟩ (.bool true)).alloc (.cells #[.int .u8 (bv (usedB true))] 5) = W4 → Pen W4 B g xs (true) ∧ Blk W4 w.heap.size 50 (nodeC x A c) ∧ Below B w W4 ∧ Oth w W4 ∧ Rd b8 W4 W4.heap.size (some ⟨w2.heap.size, 0, none⟩) [usedB true] by
        rintro W4 rfl
        refine ⟨HP3.out.alloc _, HBx3.out.alloc _, HW3.out.alloc (by have := HP3.out.size; omega) _, HO3.out.alloc _, ?_⟩
        have hh := (Rd.new b8 (w2.setCell ⟨g, 1, none⟩ (.bool true)) 5 [usedB true]).more (B' := ((w2.setCell ⟨g, 1, none⟩ (.bool true)).alloc (.cells #[.int .u8 (bv (usedB true))] 5)).heap.size) (by simp)
        have e : (w2.setCell ⟨g, 1, none⟩ (.bool true)).heap.size = w2.heap.size := by simp
        rw [e] at hh
        exact hh)
      go_wp2_with fail
      generalize hW4 : World.alloc _ _ = W4
      obtain ⟨hp4, hbx4, hw4, ho4, hr4⟩ := HF.out W4 hW4
      clear hW4 HF
      have HP4 := Lib.hid hp4
      have HBx4 := Lib.hid hbx4
      have HW4 := Lib.hid hw4
      have HO4 := Lib.hid ho4
      have HR4 := Lib.hid hr4
      have h98 := k98
      clear k0 k1 k98
      clear hp4 hbx4 hw4 ho4 hr4
      refine (bytesO_any HP4.out HR4.out (Nat.le_refl _) (n := 1) rfl (by omega) (by omega)).mono ?_
      rintro e w5 ⟨rfl, hp5, hb5, ho5⟩
      have HP5 := Lib.hid hp5
      have HBx5 := Lib.hid (ho5 _ _ _ (by decide) (by decide) HBx4.out)
      have HW5 := Lib.hid (HW4.out.trans hb5)
      have HO5 := Lib.hid (HO4.out.trans ho5)
      have k1 := nodeC_name HBx5.out
      clear hp5 hb5 ho5
      go_wp2_with fail
      refine (numberO_in HP5.out x.name 1 1 rfl 255 HX.out.name'.1 HX.out.name'.2 (by omega) (by simp only [List.length_append, be_len, HX.out.key, HX.out.sign, HX.out.par, List.length_cons, List.length_nil]; omega)).mono ?_
      clear k1
      rintro e w6 ⟨rfl, hp6, hb6, ho6⟩
      have HP6 := Lib.hid hp6
      have HBx6 := Lib.hid (ho6 _ _ _ (by decide) (by decide) HBx5.out)
      have HW6 := Lib.hid (HW5.out.trans hb6)
      have HO6 := Lib.hid (HO5.out.trans ho6)
      have hz6 : w.heap.size + 1 ≤ w6.heap.size := HBx6.out.lt
      clear hp6 hb6 ho6
      go_wp2_with fail
      refine (bytesO_any HP6.out (rd_of_range (nodeC_key HBx6.out HX.out)) hz6 HX.out.key (by simp only [List.length_append, be_len, HX.out.key, HX.out.sign, HX.out.par, List.length_cons, List.length_nil]; omega) (by omega)).mono ?_
      rintro e w7 ⟨rfl, hp7, hb7, ho7⟩
      have HP7 := Lib.hid hp7
      have HBx7 := Lib.hid (ho7 _ _ _ (by decide) (by decide) HBx6.out)
      have HW7 := Lib.hid (HW6.out.trans hb7)
      have HO7 := Lib.hid (HO6.out.trans ho7)
      have hz7 : w.heap.size + 1 ≤ w7.heap.size := HBx7.out.lt
      clear hp7 hb7 ho7
      go_wp2_with fail
      refine (bytesO_any HP7.out (rd_of_range (nodeC_sign HBx7.out HX.out)) hz7 HX.out.sign (by simp only [List.length_append, be_len, HX.out.key, HX.out.sign, HX.out.par, List.length_cons, List.length_nil]; omega) (by omega)).mono ?_
      rintro e w8 ⟨rfl, hp8, hb8, ho8⟩
      have HP8 := Lib.hid hp8
      have HBx8 := Lib.hid (ho8 _ _ _ (by decide) (by decide) HBx7.out)
      have HW8 := Lib.hid (HW7.out.trans hb8)
      have HO8 := Lib.hid (HO7.out.trans ho8)
      have hz8 : w.heap.size + 1 ≤ w8.heap.size := HBx8.out.lt
      clear hp8 hb8 ho8
      go_wp2_with fail
      refine (bytesO_any HP8.out (rd_of_range (nodeC_par HBx8.out HX.out)) hz8 HX.out.par (by simp only [List.length_append, be_len, HX.out.key, HX.out.sign, HX.out.par, List.length_cons, List.length_nil]; omega) (by omega)).mono ?_
      rintro e w9 ⟨rfl, hp9, hb9, ho9⟩
      have HP9 := Lib.hid hp9
      have HBx9 := Lib.hid (ho9 _ _ _ (by decide) (by decide) HBx8.out)
      have HW9 := Lib.hid (HW8.out.trans hb9)
      have HO9 := Lib.hid (HO8.out.trans ho9)
      clear hp9 hb9 ho9
      have k98 := nodeC_um HBx9.out HX.out
      rw [← HN.out] at k98
      go_wp2_with fail
      refine (listNO_any HP9.out (HR.out.below (HW9.out.mono hB')) hB' HN.out.symm hy HX.out.um' (by simp only [List.length_append, be_len, HX.out.key, HX.out.sign, HX.out.par, List.length_cons, List.length_nil]; omega)).mono ?_
      clear k98
      rintro e w10 ⟨rfl, ⟨zs, hp10, hz10, hl10⟩, hb10, ho10⟩
      have HP10 := Lib.hid hp10
      have HZ10 := Lib.hid hz10
      have HW10 := Lib.hid (HW9.out.trans hb10)
      have HO10 := Lib.hid (HO9.out.trans ho10)
      clear hp10 hb10 ho10 hz10
      go_wp2_with fail
      go_end0
      refine ⟨rfl, ⟨[usedB true] ++ (be x.name 1 ++ (x.key ++ (x.sign ++ (x.par ++ zs)))), HP10.out.cast (by simp only [List.append_assoc]) ?_, ?_, ?_⟩, HW10.out, HO10.out⟩
      · rw [HNB.out]; simp [Bool.or_assoc]
      · intro hh
        rw [HZ10.out (by rw [← hh, HNB.out]; simp [Bool.or_assoc])]
        rw [nodeB, ← HU.out, ← HN.out]
      · simp only [List.length_append, be_len, HX.out.key, HX.out.sign, HX.out.par, List.length_cons, List.length_nil]; rw [← HN.out]; omega
  | false =>
    cases z with
    | true =>
      cases r with
      | true =>
        go_enter Try.func64, Try.ntmps64
        go_wp2_with (refine wpList_load_midw (by first | rfl | go_simp) 50 (.tmp 3) rfl w.heap.size 0 rfl (nodeC x A c) _ (nodeC_whole HBx.out HX.out) Try.underlying50 rfl (by rw [nodeC_len HX.out]; exact infoNode) ?_)
        refine (HBl.out _).mono ?_
        rintro e w1 ⟨rfl, hb1⟩
        have HB1 := Lib.hid hb1
        clear hb1
        have HP1 := Lib.hid (HP.out.below HB1.out (Nat.le_refl _))
        have HBx1 := Lib.hid (HBx.out.below HB1.out HBx.out.lt)
        have HW1 := Lib.hid (show Below B w w1 from HB.out.trans (HB1.out.mono (by have := HB.out.size; omega)))
        have HO1 := Lib.hid (show Oth w w1 from fun k T cs a b c => (HO.out k T cs a b c).below HB1.out (HO.out k T cs a b c).lt)
        have k98' := nodeC_um HBx1.out HX.out
        rw [← HN.out] at k98'
        go_wp2_with fail
        refine (HRi.out _ (HR.out.below (HW1.out.mono hB')) (by have := HW1.out.size; omega)).mono ?_
        rintro e w2 ⟨rfl, hb2⟩
        have HB2 := Lib.hid hb2
        clear hb2
        have HP2 := Lib.hid (HP1.out.below HB2.out (Nat.le_refl _))
        have HBx2 := Lib.hid (HBx1.out.below HB2.out HBx1.out.lt)
        have HW2 := Lib.hid (show Below B w w2 from HW1.out.trans (HB2.out.mono (by have := HW1.out.size; omega)))
        have HO2 := Lib.hid (show Oth w w2 from fun k T cs a b c => (HO1.out k T cs a b c).below HB2.out (HO1.out k T cs a b c).lt)
        have HP3 := HP2
        have HBx3 := HBx2
        have HW3 := HW2
        have HO3 := HO2
        have HF := Lib.hid (show ∀ W4, (w2).alloc (.cells #[.int .u8 (bv (usedB false))] 5) = W4 → Pen W4 B g xs (bad) ∧ Blk W4 w.heap.size 50 (nodeC x A c) ∧ Below B w W4 ∧ Oth w W4 ∧ Rd b8 W4 W4.heap.size (some ⟨w2.heap.size, 0, none⟩) [usedB false] by
          rintro W4 rfl
          refine ⟨HP3.out.alloc _, HBx3.out.alloc _, HW3.out.alloc (by have := HP3.out.size; omega) _, HO3.out.alloc _, ?_⟩
          have hh := (Rd.new b8 (w2) 5 [usedB false]).more (B' := ((w2).alloc (.cells #[.int .u8 (bv (usedB false))] 5)).heap.size) (by simp)
          have e : (w2).heap.size = w2.heap.size := by simp
          rw [e] at hh
          exact hh)
        go_wp2_with fail
        generalize hW4 : World.alloc _ _ = W4
        obtain ⟨hp4, hbx4, hw4, ho4, hr4⟩ := HF.out W4 hW4
        clear hW4 HF
        have HP4 := Lib.hid hp4
        have HBx4 := Lib.hid hbx4
        have HW4 := Lib.hid hw4
        have HO4 := Lib.hid ho4
        have HR4 := Lib.hid hr4
        have h98 := k98
        clear k0 k1 k98
        clear hp4 hbx4 hw4 ho4 hr4
        refine (bytesO_any HP4.out HR4.out (Nat.le_refl _) (n := 1) rfl (by omega) (by omega)).mono ?_
        rintro e w5 ⟨rfl, hp5, hb5, ho5⟩
        have HP5 := Lib.hid hp5
        have HBx5 := Lib.hid (ho5 _ _ _ (by decide) (by decide) HBx4.out)
        have HW5 := Lib.hid (HW4.out.trans hb5)
        have HO5 := Lib.hid (HO4.out.trans ho5)
        have k1 := nodeC_name HBx5.out
        clear hp5 hb5 ho5
        go_wp2_with fail
        refine (numberO_in HP5.out x.name 1 1 rfl 255 HX.out.name'.1 HX.out.name'.2 (by omega) (by simp only [List.length_append, be_len, HX.out.key, HX.out.sign, HX.out.par, List.length_cons, List.length_nil]; omega)).mono ?_
        clear k1
        rintro e w6 ⟨rfl, hp6, hb6, ho6⟩
        have HP6 := Lib.hid hp6
        have HBx6 := Lib.hid (ho6 _ _ _ (by decide) (by decide) HBx5.out)
        have HW6 := Lib.hid (HW5.out.trans hb6)
        have HO6 := Lib.hid (HO5.out.trans ho6)
        have hz6 : w.heap.size + 1 ≤ w6.heap.size := HBx6.out.lt
        clear hp6 hb6 ho6
        go_wp2_with fail
        refine (bytesO_any HP6.out (rd_of_range (nodeC_key HBx6.out HX.out)) hz6 HX.out.key (by simp only [List.length_append, be_len, HX.out.key, HX.out.sign, HX.out.par, List.length_cons, List.length_nil]; omega) (by omega)).mono ?_
        rintro e w7 ⟨rfl, hp7, hb7, ho7⟩
        have HP7 := Lib.hid hp7
        have HBx7 := Lib.hid (ho7 _ _ _ (by decide) (by decide) HBx6.out)
        have HW7 := Lib.hid (HW6.out.trans hb7)
        have HO7 := Lib.hid (HO6.out.trans ho7)
        have hz7 : w.heap.size + 1 ≤ w7.heap.size := HBx7.out.lt
        clear hp7 hb7 ho7
        go_wp2_with fail
        refine (bytesO_any HP7.out (rd_of_range (nodeC_sign HBx7.out HX.out)) hz7 HX.out.sign (by simp only [List.length_append, be_len, HX.out.key, HX.out.sign, HX.out.par, List.length_cons, List.length_nil]; omega) (by omega)).mono ?_
        rintro e w8 ⟨rfl, hp8, hb8, ho8⟩
        have HP8 := Lib.hid hp8
        have HBx8 := Lib.hid (ho8 _ _ _ (by decide) (by decide) HBx7.out)
        have HW8 := Lib.hid (HW7.out.trans hb8)
        have HO8 := Lib.hid (HO7.out.trans ho8)
        have hz8 : w.heap.size + 1 ≤ w8.heap.size := HBx8.out.lt
        clear hp8 hb8 ho8
        go_wp2_with fail
        refine (bytesO_any HP8.out (rd_of_range (nodeC_par HBx8.out HX.out)) hz8 HX.out.par (by simp only [List.length_append, be_len, HX.out.key, HX.out.sign, HX.out.par, List.length_cons, List.length_nil]; omega) (by omega)).mono ?_
        rintro e w9 ⟨rfl, hp9, hb9, ho9⟩
        have HP9 := Lib.hid hp9
        have HBx9 := Lib.hid (ho9 _ _ _ (by decide) (by decide) HBx8.out)
        have HW9 := Lib.hid (HW8.out.trans hb9)
        have HO9 := Lib.hid (HO8.out.trans ho9)
        clear hp9 hb9 ho9
        have k98 := nodeC_um HBx9.out HX.out
        rw [← HN.out] at k98
        go_wp2_with fail
        refine (listNO_any HP9.out (HR.out.below (HW9.out.mono hB')) hB' HN.out.symm hy HX.out.um' (by simp only [List.length_append, be_len, HX.out.key, HX.out.sign, HX.out.par, List.length_cons, List.length_nil]; omega)).mono ?_
        clear k98
        rintro e w10 ⟨rfl, ⟨zs, hp10, hz10, hl10⟩, hb10, ho10⟩
        have HP10 := Lib.hid hp10
        have HZ10 := Lib.hid hz10
        have HW10 := Lib.hid (HW9.out.trans hb10)
        have HO10 := Lib.hid (HO9.out.trans ho10)
        clear hp10 hb10 ho10 hz10
        go_wp2_with fail
        go_end0
        refine ⟨rfl, ⟨[usedB false] ++ (be x.name 1 ++ (x.key ++ (x.sign ++ (x.par ++ zs)))), HP10.out.cast (by simp only [List.append_assoc]) ?_, ?_, ?_⟩, HW10.out, HO10.out⟩
        · rw [HNB.out]; simp [Bool.or_assoc]
        · intro hh
          rw [HZ10.out (by rw [← hh, HNB.out]; simp [Bool.or_assoc])]
          rw [nodeB, ← HU.out, ← HN.out]
        · simp only [List.length_append, be_len, HX.out.key, HX.out.sign, HX.out.par, List.length_cons, List.length_nil]; rw [← HN.out]; omega
      | false =>
        go_enter Try.func64, Try.ntmps64
        go_wp2_with (refine wpList_load_midw (by first | rfl | go_simp) 50 (.tmp 3) rfl w.heap.size 0 rfl (nodeC x A c) _ (nodeC_whole HBx.out HX.out) Try.underlying50 rfl (by rw [nodeC_len HX.out]; exact infoNode) ?_)
        refine (HBl.out _).mono ?_
        rintro e w1 ⟨rfl, hb1⟩
        have HB1 := Lib.hid hb1
        clear hb1
        have HP1 := Lib.hid (HP.out.below HB1.out (Nat.le_refl _))
        have HBx1 := Lib.hid (HBx.out.below HB1.out HBx.out.lt)
        have HW1 := Lib.hid (show Below B w w1 from HB.out.trans (HB1.out.mono (by have := HB.out.size; omega)))
        have HO1 := Lib.hid (show Oth w w1 from fun k T cs a b c => (HO.out k T cs a b c).below HB1.out (HO.out k T cs a b c).lt)
        have k98' := nodeC_um HBx1.out HX.out
        rw [← HN.out] at k98'
        go_wp2_with fail
        refine (HRi.out _ (HR.out.below (HW1.out.mono hB')) (by have := HW1.out.size; omega)).mono ?_
        rintro e w2 ⟨rfl, hb2⟩
        have HB2 := Lib.hid hb2
        clear hb2
        have HP2 := Lib.hid (HP1.out.below HB2.out (Nat.le_refl _))
        have HBx2 := Lib.hid (HBx1.out.below HB2.out HBx1.out.lt)
        have HW2 := Lib.hid (show Below B w w2 from HW1.out.trans (HB2.out.mono (by have := HW1.out.size; omega)))
        have HO2 := Lib.hid (show Oth w w2 from fun k T cs a b c => (HO1.out k T cs a b c).below HB2.out (HO1.out k T cs a b c).lt)
        have HP3 := Lib.hid (HP2.out.setBad true)
        obtain ⟨v2, h1, h2⟩ := HP2.out.at_
        have c1 := h1.cell 1 rfl
        have f1 := h1.frozen 1
        have HBx3 := Lib.hid (HBx2.out.far (p := ⟨g, 1, none⟩) (by have h := HBx2.out; have h' := h1; rintro rfl; have := h.symm.trans h'; simp only [Option.some.injEq, Obj.cells.injEq] at this; exact absurd this.2.1 (by decide)) (.bool true))
        have HW3 := Lib.hid (HW2.out.setCell (p := ⟨g, 1, none⟩) HP2.out.le (.bool true))
        have HO3 := Lib.hid (HO2.out.trans (Oth.set_ (k0 := 1) (u := .bool true) h1))
        clear h1 h2
        have HF := Lib.hid (show ∀ W4, (w2.setCell ⟨g, 1, none⟩ (.bool true)).alloc (.cells #[.int .u8 (bv (usedB false))] 5) = W4 → Pen W4 B g xs (true) ∧ Blk W4 w.heap.size 50 (nodeC x A c) ∧ Below B w W4 ∧ Oth w W4 ∧ Rd b8 W4 W4.heap.size (some ⟨w2.heap.size, 0, none⟩) [usedB false] by
          rintro W4 rfl
          refine ⟨HP3.out.alloc _, HBx3.out.alloc _, HW3.out.alloc (by have := HP3.out.size; omega) _, HO3.out.alloc _, ?_⟩
          have hh := (Rd.new b8 (w2.setCell ⟨g, 1, none⟩ (.bool true)) 5 [usedB false]).more (B' := ((w2.setCell ⟨g, 1, none⟩ (.bool true)).alloc (.cells #[.int .u8 (bv (usedB false))] 5)).heap.size) (by simp)
          have e : (w2.setCell ⟨g, 1, none⟩ (.bool true)).heap.size = w2.heap.size := by simp
          rw [e] at hh
          exact hh)
        go_wp2_with fail
        generalize hW4 : World.alloc _ _ = W4
        obtain ⟨hp4, hbx4, hw4, ho4, hr4⟩ := HF.out W4 hW4
        clear hW4 HF
        have HP4 := Lib.hid hp4
        have HBx4 := Lib.hid hbx4
        have HW4 := Lib.hid hw4
        have HO4 := Lib.hid ho4
        have HR4 := Lib.hid hr4
        have h98 := k98
        clear k0 k1 k98
        clear hp4 hbx4 hw4 ho4 hr4
        refine (bytesO_any HP4.out HR4.out (Nat.le_refl _) (n := 1) rfl (by omega) (by omega)).mono ?_
        rintro e w5 ⟨rfl, hp5, hb5, ho5⟩
        have HP5 := Lib.hid hp5
        have HBx5 := Lib.hid (ho5 _ _ _ (by decide) (by decide) HBx4.out)
        have HW5 := Lib.hid (HW4.out.trans hb5)
        have HO5 := Lib.hid (HO4.out.trans ho5)
        have k1 := nodeC_name HBx5.out
        clear hp5 hb5 ho5
        go_wp2_with fail
        refine (numberO_in HP5.out x.name 1 1 rfl 255 HX.out.name'.1 HX.out.name'.2 (by omega) (by simp only [List.length_append, be_len, HX.out.key, HX.out.sign, HX.out.par, List.length_cons, List.length_nil]; omega)).mono ?_
        clear k1
        rintro e w6 ⟨rfl, hp6, hb6, ho6⟩
        have HP6 := Lib.hid hp6
        have HBx6 := Lib.hid (ho6 _ _ _ (by decide) (by decide) HBx5.out)
        have HW6 := Lib.hid (HW5.out.trans hb6)
        have HO6 := Lib.hid (HO5.out.trans ho6)
        have hz6 : w.heap.size + 1 ≤ w6.heap.size := HBx6.out.lt
        clear hp6 hb6 ho6
        go_wp2_with fail
        refine (bytesO_any HP6.out (rd_of_range (nodeC_key HBx6.out HX.out)) hz6 HX.out.key (by simp only [List.length_append, be_len, HX.out.key, HX.out.sign, HX.out.par, List.length_cons, List.length_nil]; omega) (by omega)).mono ?_
        rintro e w7 ⟨rfl, hp7, hb7, ho7⟩
        have HP7 := Lib.hid hp7
        have HBx7 := Lib.hid (ho7 _ _ _ (by decide) (by decide) HBx6.out)
        have HW7 := Lib.hid (HW6.out.trans hb7)
        have HO7 := Lib.hid (HO6.out.trans ho7)
        have hz7 : w.heap.size + 1 ≤ w7.heap.size := HBx7.out.lt
        clear hp7 hb7 ho7
        go_wp2_with fail
        refine (bytesO_any HP7.out (rd_of_range (nodeC_sign HBx7.out HX.out)) hz7 HX.out.sign (by simp only [List.length_append, be_len, HX.out.key, HX.out.sign, HX.out.par, List.length_cons, List.length_nil]; omega) (by omega)).mono ?_
        rintro e w8 ⟨rfl, hp8, hb8, ho8⟩
        have HP8 := Lib.hid hp8
        have HBx8 := Lib.hid (ho8 _ _ _ (by decide) (by decide) HBx7.out)
        have HW8 := Lib.hid (HW7.out.trans hb8)
        have HO8 := Lib.hid (HO7.out.trans ho8)
        have hz8 : w.heap.size + 1 ≤ w8.heap.size := HBx8.out.lt
        clear hp8 hb8 ho8
        go_wp2_with fail
        refine (bytesO_any HP8.out (rd_of_range (nodeC_par HBx8.out HX.out)) hz8 HX.out.par (by simp only [List.length_append, be_len, HX.out.key, HX.out.sign, HX.out.par, List.length_cons, List.length_nil]; omega) (by omega)).mono ?_
        rintro e w9 ⟨rfl, hp9, hb9, ho9⟩
        have HP9 := Lib.hid hp9
        have HBx9 := Lib.hid (ho9 _ _ _ (by decide) (by decide) HBx8.out)
        have HW9 := Lib.hid (HW8.out.trans hb9)
        have HO9 := Lib.hid (HO8.out.trans ho9)
        clear hp9 hb9 ho9
        have k98 := nodeC_um HBx9.out HX.out
        rw [← HN.out] at k98
        go_wp2_with fail
        refine (listNO_any HP9.out (HR.out.below (HW9.out.mono hB')) hB' HN.out.symm hy HX.out.um' (by simp only [List.length_append, be_len, HX.out.key, HX.out.sign, HX.out.par, List.length_cons, List.length_nil]; omega)).mono ?_
        clear k98
        rintro e w10 ⟨rfl, ⟨zs, hp10, hz10, hl10⟩, hb10, ho10⟩
        have HP10 := Lib.hid hp10
        have HZ10 := Lib.hid hz10
        have HW10 := Lib.hid (HW9.out.trans hb10)
        have HO10 := Lib.hid (HO9.out.trans ho10)
        clear hp10 hb10 ho10 hz10
        go_wp2_with fail
        go_end0
        refine ⟨rfl, ⟨[usedB false] ++ (be x.name 1 ++ (x.key ++ (x.sign ++ (x.par ++ zs)))), HP10.out.cast (by simp only [List.append_assoc]) ?_, ?_, ?_⟩, HW10.out, HO10.out⟩
        · rw [HNB.out]; simp [Bool.or_assoc]
        · intro hh
          rw [HZ10.out (by rw [← hh, HNB.out]; simp [Bool.or_assoc])]
          rw [nodeB, ← HU.out, ← HN.out]
        · simp only [List.length_append, be_len, HX.out.key, HX.out.sign, HX.out.par, List.length_cons, List.length_nil]; rw [← HN.out]; omega
    | false =>
      go_enter Try.func64, Try.ntmps64
      go_wp2_with (refine wpList_load_midw (by first | rfl | go_simp) 50 (.tmp 3) rfl w.heap.size 0 rfl (nodeC x A c) _ (nodeC_whole HBx.out HX.out) Try.underlying50 rfl (by rw [nodeC_len HX.out]; exact infoNode) ?_)
      refine (HBl.out _).mono ?_
      rintro e w1 ⟨rfl, hb1⟩
      have HB1 := Lib.hid hb1
      clear hb1
      have HP1 := Lib.hid (HP.out.below HB1.out (Nat.le_refl _))
      have HBx1 := Lib.hid (HBx.out.below HB1.out HBx.out.lt)
      have HW1 := Lib.hid (show Below B w w1 from HB.out.trans (HB1.out.mono (by have := HB.out.size; omega)))
      have HO1 := Lib.hid (show Oth w w1 from fun k T cs a b c => (HO.out k T cs a b c).below HB1.out (HO.out k T cs a b c).lt)
      have k98' := nodeC_um HBx1.out HX.out
      rw [← HN.out] at k98'
      have HP3 := Lib.hid (HP1.out.setBad true)
      obtain ⟨v2, h1, h2⟩ := HP1.out.at_
      have c1 := h1.cell 1 rfl
      have f1 := h1.frozen 1
      have HBx3 := Lib.hid (HBx1.out.far (p := ⟨g, 1, none⟩) (by have h := HBx1.out; have h' := h1; rintro rfl; have := h.symm.trans h'; simp only [Option.some.injEq, Obj.cells.injEq] at this; exact absurd this.2.1 (by decide)) (.bool true))
      have HW3 := Lib.hid (HW1.out.setCell (p := ⟨g, 1, none⟩) HP1.out.le (.bool true))
      have HO3 := Lib.hid (HO1.out.trans (Oth.set_ (k0 := 1) (u := .bool true) h1))
      clear h1 h2
      have HF := Lib.hid (show ∀ W4, (w1.setCell ⟨g, 1, none⟩ (.bool true)).alloc (.cells #[.int .u8 (bv (usedB false))] 5) = W4 → Pen W4 B g xs (true) ∧ Blk W4 w.heap.size 50 (nodeC x A c) ∧ Below B w W4 ∧ Oth w W4 ∧ Rd b8 W4 W4.heap.size (some ⟨w1.heap.size, 0, none⟩) [usedB false] by
        rintro W4 rfl
        refine ⟨HP3.out.alloc _, HBx3.out.alloc _, HW3.out.alloc (by have := HP3.out.size; omega) _, HO3.out.alloc _, ?_⟩
        have hh := (Rd.new b8 (w1.setCell ⟨g, 1, none⟩ (.bool true)) 5 [usedB false]).more (B' := ((w1.setCell ⟨g, 1, none⟩ (.bool true)).alloc (.cells #[.int .u8 (bv (usedB false))] 5)).heap.size) (by simp)
        have e : (w1.setCell ⟨g, 1, none⟩ (.bool true)).heap.size = w1.heap.size := by simp
        rw [e] at hh
        exact hh)
      go_wp2_with fail
      generalize hW4 : World.alloc _ _ = W4
      obtain ⟨hp4, hbx4, hw4, ho4, hr4⟩ := HF.out W4 hW4
      clear hW4 HF
      have HP4 := Lib.hid hp4
      have HBx4 := Lib.hid hbx4
      have HW4 := Lib.hid hw4
      have HO4 := Lib.hid ho4
      have HR4 := Lib.hid hr4
      have h98 := k98
      clear k0 k1 k98
      clear hp4 hbx4 hw4 ho4 hr4
      refine (bytesO_any HP4.out HR4.out (Nat.le_refl _) (n := 1) rfl (by omega) (by omega)).mono ?_
      rintro e w5 ⟨rfl, hp5, hb5, ho5⟩
      have HP5 := Lib.hid hp5
      have HBx5 := Lib.hid (ho5 _ _ _ (by decide) (by decide) HBx4.out)
      have HW5 := Lib.hid (HW4.out.trans hb5)
      have HO5 := Lib.hid (HO4.out.trans ho5)
      have k1 := nodeC_name HBx5.out
      clear hp5 hb5 ho5
      go_wp2_with fail
      refine (numberO_in HP5.out x.name 1 1 rfl 255 HX.out.name'.1 HX.out.name'.2 (by omega) (by simp only [List.length_append, be_len, HX.out.key, HX.out.sign, HX.out.par, List.length_cons, List.length_nil]; omega)).mono ?_
      clear k1
      rintro e w6 ⟨rfl, hp6, hb6, ho6⟩
      have HP6 := Lib.hid hp6
      have HBx6 := Lib.hid (ho6 _ _ _ (by decide) (by decide) HBx5.out)
      have HW6 := Lib.hid (HW5.out.trans hb6)
      have HO6 := Lib.hid (HO5.out.trans ho6)
      have hz6 : w.heap.size + 1 ≤ w6.heap.size := HBx6.out.lt
      clear hp6 hb6 ho6
      go_wp2_with fail
      refine (bytesO_any HP6.out (rd_of_range (nodeC_key HBx6.out HX.out)) hz6 HX.out.key (by simp only [List.length_append, be_len, HX.out.key, HX.out.sign, HX.out.par, List.length_cons, List.length_nil]; omega) (by omega)).mono ?_
      rintro e w7 ⟨rfl, hp7, hb7, ho7⟩
      have HP7 := Lib.hid hp7
      have HBx7 := Lib.hid (ho7 _ _ _ (by decide) (by decide) HBx6.out)
      have HW7 := Lib.hid (HW6.out.trans hb7)
      have HO7 := Lib.hid (HO6.out.trans ho7)
      have hz7 : w.heap.size + 1 ≤ w7.heap.size := HBx7.out.lt
      clear hp7 hb7 ho7
      go_wp2_with fail
      refine (bytesO_any HP7.out (rd_of_range (nodeC_sign HBx7.out HX.out)) hz7 HX.out.sign (by simp only [List.length_append, be_len, HX.out.key, HX.out.sign, HX.out.par, List.length_cons, List.length_nil]; omega) (by omega)).mono ?_
      rintro e w8 ⟨rfl, hp8, hb8, ho8⟩
      have HP8 := Lib.hid hp8
      have HBx8 := Lib.hid (ho8 _ _ _ (by decide) (by decide) HBx7.out)
      have HW8 := Lib.hid (HW7.out.trans hb8)
      have HO8 := Lib.hid (HO7.out.trans ho8)
      have hz8 : w.heap.size + 1 ≤ w8.heap.size := HBx8.out.lt
      clear hp8 hb8 ho8
      go_wp2_with fail
      refine (bytesO_any HP8.out (rd_of_range (nodeC_par HBx8.out HX.out)) hz8 HX.out.par (by simp only [List.length_append, be_len, HX.out.key, HX.out.sign, HX.out.par, List.length_cons, List.length_nil]; omega) (by omega)).mono ?_
      rintro e w9 ⟨rfl, hp9, hb9, ho9⟩
      have HP9 := Lib.hid hp9
      have HBx9 := Lib.hid (ho9 _ _ _ (by decide) (by decide) HBx8.out)
      have HW9 := Lib.hid (HW8.out.trans hb9)
      have HO9 := Lib.hid (HO8.out.trans ho9)
      clear hp9 hb9 ho9
      have k98 := nodeC_um HBx9.out HX.out
      rw [← HN.out] at k98
      go_wp2_with fail
      refine (listNO_any HP9.out (HR.out.below (HW9.out.mono hB')) hB' HN.out.symm hy HX.out.um' (by simp only [List.length_append, be_len, HX.out.key, HX.out.sign, HX.out.par, List.length_cons, List.length_nil]; omega)).mono ?_
      clear k98
      rintro e w10 ⟨rfl, ⟨zs, hp10, hz10, hl10⟩, hb10, ho10⟩
      have HP10 := Lib.hid hp10
      have HZ10 := Lib.hid hz10
      have HW10 := Lib.hid (HW9.out.trans hb10)
      have HO10 := Lib.hid (HO9.out.trans ho10)
      clear hp10 hb10 ho10 hz10
      go_wp2_with fail
      go_end0
      refine ⟨rfl, ⟨[usedB false] ++ (be x.name 1 ++ (x.key ++ (x.sign ++ (x.par ++ zs)))), HP10.out.cast (by simp only [List.append_assoc]) ?_, ?_, ?_⟩, HW10.out, HO10.out⟩
      · rw [HNB.out]; simp [Bool.or_assoc]
      · intro hh
        rw [HZ10.out (by rw [← hh, HNB.out]; simp [Bool.or_assoc])]
        rw [nodeB, ← HU.out, ← HN.out]
      · simp only [List.length_append, be_len, HX.out.key, HX.out.sign, HX.out.par, List.length_cons, List.length_nil]; rw [← HN.out]; omega
end Go.Proofs.Ytloglpamnalmeaa
