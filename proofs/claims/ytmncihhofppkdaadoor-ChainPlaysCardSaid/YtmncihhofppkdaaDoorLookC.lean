/- CONTRACTS: Chains.Look of a line. -/
import Derived.Test.YtmncihhofppkdaaDoorChainsC
import Derived.Test.YtmncihhofppkdaaDoorClone
namespace Go.Proofs.YtmncihhofppkdaaDoor
open Go.RowKit
set_option linter.unusedVariables false
set_option linter.unusedSimpArgs false

theorem takeO_lens {l : LineM} (h : LOK l) {n : Int} (hE : takeE l n = 0) : (takeO l n).key.length = 32 ∧ (takeO l n).nonce.length = 12 := by
  by_cases hlo : n < l.place
  · obtain ⟨n0, n1, nh, nl, na, nf⟩ := takeE_zero hE
    have hk := h.hi
    obtain ⟨o, ho, he⟩ := h.all n nl hlo na (by omega)
    rw [takeO_low h hlo hE ho he]
    exact ⟨(h.held o ho).2.2.2.2.1, (h.held o ho).2.2.2.2.2⟩
  · rw [takeO_run (k := (n - l.place).toNat) (by omega) hE]
    exact ⟨ofL_key _ _, ofL_nonce _ _⟩
/-- what was asked for is refused then -/
theorem takeE_again (l : LineM) (n : Int) : takeE (takeN l n) n ≠ 0 := by
  unfold takeN
  split
  · intro h0
    exact (takeE_zero h0).2.2.2.2.1 (by show n ∈ l.asked ++ [n]; simp)
  · assumption
theorem onceC_33 (no : Int) (key : List (BitVec 8)) (v : Value) (h : key.length = 32) : (onceC no key v)[33]? = some v := by
  unfold onceC
  rw [List.getElem?_cons_succ, List.getElem?_append_right (by simp [h])]
  simp [h]
theorem onceC_set33 (no : Int) (key : List (BitVec 8)) (v v' : Value) (h : key.length = 32) : (onceC no key v).set 33 v' = onceC no key v' := by
  unfold onceC
  simp [List.set_append, h]
set_option maxRecDepth 100000 in
theorem clone_nil (w : World) : Calls Tryd.prog 35 #[.slice none 0 0] w fun e w' => e = .returned (.slice none 0 0) ∧ w = w' := by
  have hne := fun w => Lib.run_eql_slice_nil (P := Tryd.prog) w 30 5 none 0 0 0 0 Tryd.underlying30
  go_enter Tryd.func35, Tryd.ntmps35
  go_wp2_with fail
  go_ret
  exact ⟨rfl, rfl⟩

set_option maxRecDepth 100000
set_option maxHeartbeats 4000000 in
theorem look_bad (w : World) (gC gl : Nat) (xs : List LP) (hc : ChAt w gC gl xs) (i : Nat) (hi : i < xs.length) (hm : xs.length ≤ 1000) (n : Int) (hE : takeE xs[i].l n ≠ 0) :
    Calls Tryd.prog 17 #[.pointer (some ⟨gC, 0, none⟩), .int .i64 (i : Int), .int .i64 n] w fun e w' => e = .returned (.tuple #[.agg zeroOnce.toArray, errV (takeE xs[i].l n)]) ∧ Below w.heap.size w w' := by
  obtain ⟨w1, hw1⟩ : ∃ w1, w1 = w.alloc (.cells zeroOnce.toArray 32) := ⟨_, rfl⟩
  have HZ1 := Lib.hid (show Blk w1 w.heap.size 32 zeroOnce by rw [hw1]; exact Blk.new _ _ _)
  have HK1 := Lib.hid (show Below w.heap.size w w1 by rw [hw1]; exact (Below.refl _ w).alloc (Nat.le_refl _) _)
  have hz1 : w1.heap.size = w.heap.size + 1 := by rw [hw1]; simp
  have HW1 := Lib.hid hw1
  clear hw1
  have HC1 := Lib.hid (hc.below HK1.out)
  have HL := Lib.hid (line_any w1 gC gl xs HC1.out i hi hm)
  have hx := hc.ok _ (List.getElem_mem hi)
  obtain ⟨x, hxe⟩ : ∃ x, x = xs[i] := ⟨_, rfl⟩
  rw [← hxe] at hx
  have HXe := Lib.hid hxe
  have HX := Lib.hid hx
  have hh := HC1.out.held _ (List.getElem_mem hi)
  have hr := HC1.out.range i hi
  rw [← hxe] at hh hr
  have HCp := Lib.hid (copied_any w1 gl (i * 37) x.t x.h x.s x.l.link x.l.place x.gm hr hx.lok.len HC1.out.lines.lt _ hh.map)
  have HH1 := Lib.hid hh
  have HC0 := Lib.hid hc
  rw [← hxe] at hE ⊢
  have HNe := Lib.hid (errV_pos hE)
  have HE := Lib.hid hE
  clear hxe hx hh hr hE hc
  generalize hEE : takeE x.l n = E at HNe HE ⊢
  have HEE := Lib.hid hEE
  clear hEE
  go_enter Tryd.func17, Tryd.ntmps17
  go_upto_region 1 with fail
  have hw1 := HW1.out
  simp only [show zeroOnce.toArray = #[Value.int .i64 0, Value.int .u8 0, Value.int .u8 0, Value.int .u8 0, Value.int .u8 0, Value.int .u8 0, Value.int .u8 0, Value.int .u8 0, Value.int .u8 0, Value.int .u8 0, Value.int .u8 0, Value.int .u8 0, Value.int .u8 0, Value.int .u8 0, Value.int .u8 0, Value.int .u8 0, Value.int .u8 0, Value.int .u8 0, Value.int .u8 0, Value.int .u8 0, Value.int .u8 0, Value.int .u8 0, Value.int .u8 0, Value.int .u8 0, Value.int .u8 0, Value.int .u8 0, Value.int .u8 0, Value.int .u8 0, Value.int .u8 0, Value.int .u8 0, Value.int .u8 0, Value.int .u8 0, Value.int .u8 0, Value.slice none 0 0] from rfl] at hw1
  rw [← hw1]
  clear hw1
  go_wp2_with fail
  refine HL.out.mono ?_
  rintro e w2 ⟨rfl, rfl⟩
  go_wp2_with fail
  refine HCp.out.mono ?_
  rintro e w2 ⟨gn, mn, rfl, hgn, hmn, hB2, hM2, hb2⟩
  have hH2 : HeldAt w2 mn x.hp := ⟨hM2, fun p hp => (HH1.out.mem p hp).below hb2 (HH1.out.mem p hp).lt⟩
  have HT := Lib.hid (take_any w2 gn ⟨x.l, x.hp, mn, x.t, x.h, x.s, x.M⟩ ⟨HX.out.lok, HX.out.marks, HX.out.fst, HX.out.nd⟩ hB2 hH2 n w1.heap.size ⟨hgn, hmn, hb2.size⟩)
  have HB2 := Lib.hid hb2
  have HZ2 := Lib.hid (HZ1.out.below hb2 (by omega))
  have hz2 := hb2.size
  clear hB2 hM2 hb2 hH2
  go_wp2_with fail
  refine HT.out.mono ?_
  rintro e w3 ⟨h1, -, hb3⟩
  have h1 := h1 (by show takeE x.l n ≠ 0; rw [HEE.out]; exact HE.out)
  rw [show takeE (LP.l ⟨x.l, x.hp, mn, x.t, x.h, x.s, x.M⟩) n = E from HEE.out, HNe.out] at h1
  subst h1
  have HZ3 := Lib.hid (HZ2.out.below hb3 (by omega))
  have hz3 := hb3.size
  have HB3 := Lib.hid (show Below w.heap.size w w3 from HK1.out.trans ((HB2.out.trans hb3).mono (by omega)))
  have HZa := Lib.hid (show Blk (w3.alloc (.cells zeroOnce.toArray 32)) w3.heap.size 32 zeroOnce from Blk.new _ _ _)
  clear hb3
  go_upto_region 5 with (refine wpList_store_piece rfl 32 (.tmp 9) (.tmp 23) rfl w3.heap.size 0 rfl zeroOnce rfl 32 _ [] zeroOnce [] HZa.out (by simp) rfl rfl sizeOnce (onceC_one _ _ _ _ _) ?_; intro w4 hx4 hg4)
  have HK4 := Lib.hid (show Below w3.heap.size w3 w4 from ((Below.refl _ w3).alloc (Nat.le_refl _) _).grown hg4 (by simp) (fun k e => by cases e; exact Nat.le_refl _))
  have HX4 := Lib.hid (show Blk w4 w3.heap.size 32 zeroOnce from hx4.cast (by simp))
  have HZ4 := Lib.hid (HZ3.out.below HK4.out (by omega))
  have HB4 := Lib.hid (HB3.out.trans (HK4.out.mono (by omega)))
  have hz4 : w3.heap.size + 1 ≤ w4.heap.size := by have := hg4.size; simpa using this
  have c33 := HX4.out.cell 33 (u := .slice none 0 0) (onceC_33 _ _ _ (by simp))
  have f33 := HX4.out.frozen 33
  have HCl := Lib.hid (clone_nil w4)
  clear hx4 hg4
  go_wp2_with fail
  refine HCl.out.mono ?_
  rintro e w5 ⟨rfl, rfl⟩
  go_upto_region 6 with fail
  have hg5 := grownBy_set w4 w3.heap.size 33 (.slice none 0 0)
  have HX5 := Lib.hid ((HX4.out.set_ 33 (.slice none 0 0)).cast (onceC_set33 _ _ _ _ (by simp)))
  have HZ5 := Lib.hid (HZ4.out.grown hg5 (fun e => by injection e with e; omega))
  have HB5 := Lib.hid (HB4.out.grown hg5 HB4.out.size (fun k e => by cases e; omega))
  generalize w4.setCell ⟨w3.heap.size, 33, none⟩ (.slice none 0 0) = w5 at HX5 HZ5 HB5 hg5 ⊢
  clear hg5 c33 f33
  refine wp_region_lit ?_
  refine wpList_load_mid rfl 32 (.tmp 9) rfl w3.heap.size 0 rfl zeroOnce _ HX5.out.whole Tryd.underlying32 rfl sizeOnce ?_
  go_wp2_with (refine wpList_store_piece rfl 32 (.tmp 6) (.tmp 29) rfl w.heap.size 0 rfl zeroOnce rfl 32 _ [] zeroOnce [] HZ5.out (by simp) rfl rfl sizeOnce (onceC_one _ _ _ _ _) ?_; intro w9 hx9 hg9)
  have HX9 := Lib.hid (show Blk w9 w.heap.size 32 zeroOnce from hx9.cast (by simp))
  refine bodyPost_ret (v := .tuple #[.agg zeroOnce.toArray, errV E]) (results_blk_tmp (g := w.heap.size) rfl _ _ _ _ _ _ rfl (by exact HNe.out.symm) HX9.out Tryd.underlying32 rfl sizeOnce) rfl ?_
  exact ⟨rfl, HB5.out.grown hg9 HB5.out.size (fun k e => by cases e; exact Nat.le_refl _)⟩

set_option maxHeartbeats 8000000 in
theorem look_ok (w : World) (gC gl : Nat) (xs : List LP) (hc : ChAt w gC gl xs) (i : Nat) (hi : i < xs.length) (hm : xs.length ≤ 1000) (n : Int) (hE : takeE xs[i].l n = 0) :
    Calls Tryd.prog 17 #[.pointer (some ⟨gC, 0, none⟩), .int .i64 (i : Int), .int .i64 n] w fun e w' => ∃ g c, e = .returned (.tuple #[.agg (onceC n (takeO xs[i].l n).key (.slice (some ⟨g, 0, none⟩) 12 c)).toArray, .nilIface]) ∧
      w.heap.size ≤ g ∧ Own b8 w' w.heap.size 5 (.slice (some ⟨g, 0, none⟩) 12 c) (takeO xs[i].l n).nonce ∧ Below w.heap.size w w' := by
  obtain ⟨w1, hw1⟩ : ∃ w1, w1 = w.alloc (.cells zeroOnce.toArray 32) := ⟨_, rfl⟩
  have HZ1 := Lib.hid (show Blk w1 w.heap.size 32 zeroOnce by rw [hw1]; exact Blk.new _ _ _)
  have HK1 := Lib.hid (show Below w.heap.size w w1 by rw [hw1]; exact (Below.refl _ w).alloc (Nat.le_refl _) _)
  have hz1 : w1.heap.size = w.heap.size + 1 := by rw [hw1]; simp
  have HW1 := Lib.hid hw1
  clear hw1
  have HC1 := Lib.hid (hc.below HK1.out)
  have HL := Lib.hid (line_any w1 gC gl xs HC1.out i hi hm)
  have hx := hc.ok _ (List.getElem_mem hi)
  obtain ⟨x, hxe⟩ : ∃ x, x = xs[i] := ⟨_, rfl⟩
  rw [← hxe] at hx
  have HXe := Lib.hid hxe
  have HX := Lib.hid hx
  have hh := HC1.out.held _ (List.getElem_mem hi)
  have hr := HC1.out.range i hi
  rw [← hxe] at hh hr
  have HCp := Lib.hid (copied_any w1 gl (i * 37) x.t x.h x.s x.l.link x.l.place x.gm hr hx.lok.len HC1.out.lines.lt _ hh.map)
  have HH1 := Lib.hid hh
  have HC0 := Lib.hid hc
  rw [← hxe] at hE ⊢
  obtain ⟨hKl, hNl⟩ := takeO_lens hx.lok hE
  obtain ⟨O, hO⟩ : ∃ O, O = takeO x.l n := ⟨_, rfl⟩
  rw [← hO] at hKl hNl ⊢
  have HOe := Lib.hid hO
  have HKl := Lib.hid hKl
  have HNl := Lib.hid hNl
  have HE := Lib.hid hE
  clear hxe hx hh hr hE hc hO hKl hNl
  go_enter Tryd.func17, Tryd.ntmps17
  go_upto_region 1 with fail
  have hw1 := HW1.out
  simp only [show zeroOnce.toArray = #[Value.int .i64 0, Value.int .u8 0, Value.int .u8 0, Value.int .u8 0, Value.int .u8 0, Value.int .u8 0, Value.int .u8 0, Value.int .u8 0, Value.int .u8 0, Value.int .u8 0, Value.int .u8 0, Value.int .u8 0, Value.int .u8 0, Value.int .u8 0, Value.int .u8 0, Value.int .u8 0, Value.int .u8 0, Value.int .u8 0, Value.int .u8 0, Value.int .u8 0, Value.int .u8 0, Value.int .u8 0, Value.int .u8 0, Value.int .u8 0, Value.int .u8 0, Value.int .u8 0, Value.int .u8 0, Value.int .u8 0, Value.int .u8 0, Value.int .u8 0, Value.int .u8 0, Value.int .u8 0, Value.int .u8 0, Value.slice none 0 0] from rfl] at hw1
  rw [← hw1]
  clear hw1
  go_wp2_with fail
  refine HL.out.mono ?_
  rintro e w2 ⟨rfl, rfl⟩
  go_wp2_with fail
  refine HCp.out.mono ?_
  rintro e w2 ⟨gn, mn, rfl, hgn, hmn, hB2, hM2, hb2⟩
  have hH2 : HeldAt w2 mn x.hp := ⟨hM2, fun p hp => (HH1.out.mem p hp).below hb2 (HH1.out.mem p hp).lt⟩
  have HT := Lib.hid (take_any w2 gn ⟨x.l, x.hp, mn, x.t, x.h, x.s, x.M⟩ ⟨HX.out.lok, HX.out.marks, HX.out.fst, HX.out.nd⟩ hB2 hH2 n w1.heap.size ⟨hgn, hmn, hb2.size⟩)
  have HB2 := Lib.hid hb2
  have HZ2 := Lib.hid (HZ1.out.below hb2 (by omega))
  have hz2 := hb2.size
  clear hB2 hM2 hb2 hH2
  go_wp2_with fail
  refine HT.out.mono ?_
  rintro e w3 ⟨-, h1, hb3⟩
  obtain ⟨b, y, h1, hA3, -, -, -, -, -, -, -⟩ := h1 HE.out
  rw [show takeO (LP.l ⟨x.l, x.hp, mn, x.t, x.h, x.s, x.M⟩) n = O from HOe.out.symm] at h1 hA3
  subst h1
  have HZ3 := Lib.hid (HZ2.out.below hb3 (by omega))
  have hz3 := hb3.size
  have HB3 := Lib.hid (show Below w.heap.size w w3 from HK1.out.trans ((HB2.out.trans hb3).mono (by omega)))
  have HZa := Lib.hid (show Blk (w3.alloc (.cells zeroOnce.toArray 32)) w3.heap.size 32 zeroOnce from Blk.new _ _ _)
  have HA3 := Lib.hid hA3
  clear hb3 hA3 HT
  go_upto_region 5 with (refine wpList_store_piece rfl 32 (.tmp 9) (.tmp 23) rfl w3.heap.size 0 rfl (onceC n O.key (nonceS b)) rfl 32 _ [] zeroOnce [] HZa.out (by simp) rfl (by rw [onceC_len _ _ _ HKl.out]; rfl) (by rw [sizeOnce, onceC_len _ _ _ HKl.out]) (onceC_one _ _ _ _ _) ?_; intro w4 hx4 hg4)
  have HX4 := Lib.hid (show Blk w4 w3.heap.size 32 (onceC n O.key (nonceS b)) from hx4.cast (by simp))
  have HK4 := Lib.hid (show Below w3.heap.size w3 w4 from ((Below.refl _ w3).alloc (Nat.le_refl _) _).grown hg4 (by simp) (fun k e => by cases e; exact Nat.le_refl _))
  have hz4 : w3.heap.size + 1 ≤ w4.heap.size := by have := hg4.size; simpa using this
  have HZ4 := Lib.hid (HZ3.out.below HK4.out (by omega))
  have HB4 := Lib.hid (HB3.out.trans (HK4.out.mono (by omega)))
  have hA4 := HA3.out.below HK4.out HA3.out.lt
  have hr4 : Rd b8 w4 (b + 1) (some ⟨b, 32, none⟩) O.nonce := by
    have h := hA4.rd 32
    rwa [show (O.key ++ O.nonce).drop 32 = O.nonce by rw [← HKl.out, List.drop_left]] at h
  have HCl := Lib.hid (clone_any w4 (b + 1) (some ⟨b, 32, none⟩) 12 12 O.nonce hr4 hA4.lt HNl.out.symm (fun e => by cases e) (by omega))
  have c33 := HX4.out.cell 33 (u := nonceS b) (onceC_33 _ _ _ HKl.out)
  unfold nonceS at c33
  clear hx4 hg4 hr4 hA4
  go_wp2_with fail
  refine HCl.out.mono ?_
  rintro e w5 ⟨v, rfl, hO5, hb5⟩
  obtain ⟨g, c, rfl, hg, -, -⟩ := hO5.form' HNl.out (by decide)
  have HO5 := Lib.hid hO5
  have HX5 := Lib.hid (HX4.out.below hb5 (by omega))
  have HZ5 := Lib.hid (HZ4.out.below hb5 (by omega))
  have HB5 := Lib.hid (HB4.out.trans (hb5.mono (by omega)))
  have hz5 := hb5.size
  have f33 := HX5.out.frozen 33
  have c33' := HX5.out.cell 33 (u := nonceS b) (onceC_33 _ _ _ HKl.out)
  clear hO5 hb5 c33 HCl
  go_upto_region 6 with fail
  have hg6 := grownBy_set w5 w3.heap.size 33 (.slice (some ⟨g, 0, none⟩) 12 c)
  have HX6 := Lib.hid ((HX5.out.set_ 33 (.slice (some ⟨g, 0, none⟩) 12 c)).cast (onceC_set33 _ _ _ _ HKl.out))
  have HZ6 := Lib.hid (HZ5.out.grown hg6 (fun e => by injection e with e; omega))
  have HB6 := Lib.hid (HB5.out.grown hg6 HB5.out.size (fun k e => by cases e; omega))
  have HO6 := Lib.hid (HO5.out.kept hg6 (.inr (fun e => by have e : some g = some w3.heap.size := e; injection e with e; omega)))
  generalize w5.setCell ⟨w3.heap.size, 33, none⟩ (.slice (some ⟨g, 0, none⟩) 12 c) = w6 at HX6 HZ6 HB6 HO6 hg6 ⊢
  clear hg6 c33' f33
  refine wp_region_lit ?_
  refine wpList_load_mid rfl 32 (.tmp 9) rfl w3.heap.size 0 rfl (onceC n O.key (.slice (some ⟨g, 0, none⟩) 12 c)) _ HX6.out.whole Tryd.underlying32 rfl (by rw [sizeOnce, onceC_len _ _ _ HKl.out]) ?_
  go_wp2_with (refine wpList_store_piece rfl 32 (.tmp 6) (.tmp 29) rfl w.heap.size 0 rfl (onceC n O.key (.slice (some ⟨g, 0, none⟩) 12 c)) rfl 32 _ [] zeroOnce [] HZ6.out (by simp) rfl (by rw [onceC_len _ _ _ HKl.out]; rfl) (by rw [sizeOnce, onceC_len _ _ _ HKl.out]) (onceC_one _ _ _ _ _) ?_; intro w9 hx9 hg9)
  have HX9 := Lib.hid (show Blk w9 w.heap.size 32 (onceC n O.key (.slice (some ⟨g, 0, none⟩) 12 c)) from hx9.cast (by simp))
  refine bodyPost_ret (v := .tuple #[.agg (onceC n O.key (.slice (some ⟨g, 0, none⟩) 12 c)).toArray, .nilIface]) (results_blk_tmp (g := w.heap.size) rfl _ _ _ _ _ _ rfl rfl HX9.out Tryd.underlying32 rfl (by rw [sizeOnce, onceC_len _ _ _ HKl.out])) rfl ?_
  exact ⟨g, c, rfl, by omega, (HO6.out.kept hg9 (.inr (fun e => by have e : some g = some w.heap.size := e; injection e with e; omega))).less (by omega), HB6.out.grown hg9 HB6.out.size (fun k e => by cases e; exact Nat.le_refl _)⟩
end Go.Proofs.YtmncihhofppkdaaDoor
