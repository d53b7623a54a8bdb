/- CONTRACT: the long digest of parts. -/
import Derived.Test.YtgeighnfgniamaaWide
import Derived.Test.YtgeighnfgniamaaSum
import Derived.Test.YtgeighnfgniamaaArrIn
namespace Go.Proofs.Ytgeighnfgniamaa
open Go.RowKit
set_option linter.unusedVariables false
set_option linter.unusedSimpArgs false
attribute [local go_sem] Oper.semAt_some

theorem out64_len (R : S8 64) : (R.list.flatMap bytes64).length = 64 := rfl
theorem out64_at (R : S8 64) (i j : Nat) (hi : i < 8) (hj : j < 8) : (R.list.flatMap bytes64).getD (8 * i + j) 0#8 = ((R.list.getD i 0#64) >>> (56 - 8 * j)).setWidth 8 := by
  match i, hi, j, hj with
  | 0, _, 0, _ => rfl
  | 0, _, 1, _ => rfl
  | 0, _, 2, _ => rfl
  | 0, _, 3, _ => rfl
  | 0, _, 4, _ => rfl
  | 0, _, 5, _ => rfl
  | 0, _, 6, _ => rfl
  | 0, _, 7, _ => rfl
  | 1, _, 0, _ => rfl
  | 1, _, 1, _ => rfl
  | 1, _, 2, _ => rfl
  | 1, _, 3, _ => rfl
  | 1, _, 4, _ => rfl
  | 1, _, 5, _ => rfl
  | 1, _, 6, _ => rfl
  | 1, _, 7, _ => rfl
  | 2, _, 0, _ => rfl
  | 2, _, 1, _ => rfl
  | 2, _, 2, _ => rfl
  | 2, _, 3, _ => rfl
  | 2, _, 4, _ => rfl
  | 2, _, 5, _ => rfl
  | 2, _, 6, _ => rfl
  | 2, _, 7, _ => rfl
  | 3, _, 0, _ => rfl
  | 3, _, 1, _ => rfl
  | 3, _, 2, _ => rfl
  | 3, _, 3, _ => rfl
  | 3, _, 4, _ => rfl
  | 3, _, 5, _ => rfl
  | 3, _, 6, _ => rfl
  | 3, _, 7, _ => rfl
  | 4, _, 0, _ => rfl
  | 4, _, 1, _ => rfl
  | 4, _, 2, _ => rfl
  | 4, _, 3, _ => rfl
  | 4, _, 4, _ => rfl
  | 4, _, 5, _ => rfl
  | 4, _, 6, _ => rfl
  | 4, _, 7, _ => rfl
  | 5, _, 0, _ => rfl
  | 5, _, 1, _ => rfl
  | 5, _, 2, _ => rfl
  | 5, _, 3, _ => rfl
  | 5, _, 4, _ => rfl
  | 5, _, 5, _ => rfl
  | 5, _, 6, _ => rfl
  | 5, _, 7, _ => rfl
  | 6, _, 0, _ => rfl
  | 6, _, 1, _ => rfl
  | 6, _, 2, _ => rfl
  | 6, _, 3, _ => rfl
  | 6, _, 4, _ => rfl
  | 6, _, 5, _ => rfl
  | 6, _, 6, _ => rfl
  | 6, _, 7, _ => rfl
  | 7, _, 0, _ => rfl
  | 7, _, 1, _ => rfl
  | 7, _, 2, _ => rfl
  | 7, _, 3, _ => rfl
  | 7, _, 4, _ => rfl
  | 7, _, 5, _ => rfl
  | 7, _, 6, _ => rfl
  | 7, _, 7, _ => rfl
theorem size64b : (Try.prog.info? 35).map (·.size) = some 64 := by kernel_rfl
/-- what the loop over the parts keeps -/
structure LgI (gs gk go b c NP bs bn : Nat) (P : List (BitVec 8)) (s : S8 64) (W : World) : Prop where
  e : Arr w64 W gs 70 s.list
  k : Arr w64 W gk 72 K64
  o : Arr b8 W go 35 (List.replicate 64 0#8)
  p : Own b8 W 0 5 (.slice (some ⟨b, 0, none⟩) (128 * NP) c) P
  s : Boxed W bs 22 (.slice (some ⟨b, 0, none⟩) (128 * NP) c)
  n : Boxed W bn 3 (.int .i64 128)
section
variable {gs gk go b c NP bs bn : Nat} {P : List (BitVec 8)} {s : S8 64} {W W' : World}
theorem LgI.own {row : Option Nat} (h : LgI gs gk go b c NP bs bn P s W) (hg : W.grownBy W' row) (hr : ∀ r, row = some r → ∃ o : Obj, W.heap[r]? = some o ∧ o.isCells = false) : LgI gs gk go b c NP bs bn P s W' :=
  ⟨arrO h.e hg hr, arrO h.k hg hr, arrO h.o hg hr, ownO h.p hg hr, boxO h.s hg hr, boxO h.n hg hr⟩
theorem LgI.below (h : LgI gs gk go b c NP bs bn P s W) (hb : Below W.heap.size W W') : LgI gs gk go b c NP bs bn P s W' :=
  ⟨h.e.below hb h.e.lt, h.k.below hb h.k.lt, h.o.below hb h.o.lt, h.p.below hb (Nat.le_refl _), boxed_bl h.s hb, boxed_bl h.n hb⟩
end
theorem arr_not_own {α β : Type} {f : α → Value} {f' : β → Value} {w : World} {g T B e : Nat} {ys : List β} {v : Value} {xs : List α} (h : Arr f' w g T ys) (hte : T ≠ e) (hr : Own f w B e v xs) : some g ≠ v.ownBlock := by
  rcases hr.2 with ⟨rfl, _⟩ | ⟨g', cap, cur, rfl, _, hgb, _⟩
  · simp [Value.ownBlock]
  · intro e'
    obtain rfl : g = g' := by simpa [Value.ownBlock] using e'
    have : w.heap[g]? = some (.cells (ys.map f').toArray T (0, 0)) := h
    rw [this] at hgb; cases hgb; exact hte rfl

set_option maxRecDepth 100000 in
set_option maxHeartbeats 4000000 in
theorem long_any (w : World) (B b off c n : Nat) (ps : List Pt) (hp : Pts w B b off ps) (hB : B ≤ w.heap.size) (hn : n = ps.length) (hn2 : n ≤ 100000) (xs : List (BitVec 8)) (hxs : xs = ps.flatMap fun p => p.2) (htot : xs.length ≤ 50000000) :
    Calls Try.prog 23 #[.slice (some ⟨b, off, none⟩) n c] w fun e w' => e = .returned (arrV b8 (sum64 xs)) ∧ Below w.heap.size w w' := by
  have hz := zero80
  have hp1 : Pts (w.alloc (.cells ((List.replicate 64 0#8).map b8).toArray 35)) B b off ps := hp.below ((Below.refl _ w).alloc (Nat.le_refl _) _) hB hp.lt
  have hcat := concat_any _ B b off c n ps hp1 (by simp; omega) hn hn2 (by rw [← hxs]; exact htot)
  rw [← hxs] at hcat
  have HCat := Lib.hid hcat
  have HT := Lib.hid htot
  have HO0 := Lib.hid (Arr.new b8 w 35 (List.replicate 64 0#8))
  clear hp hp1 hn hxs htot hcat
  refine (callsIn_wide (n := 9)).1 ?_
  refine callsIn_of_wp_marks Try.func23 rfl trivial ?_ rfl
  simp only [Try.ntmps23, List.size_toArray, List.length_cons, List.length_nil, Nat.reduceAdd, Nat.reduceSub, Array.replicate_succ, Array.replicate_zero, List.push_toArray, List.append_toArray, List.nil_append, List.cons_append]
  refine wpIn_wide.2 ?_
  go_wp2_with fail
  refine HCat.out.mono ?_
  rintro e w1 ⟨v1, rfl, hown1, hb1⟩
  obtain ⟨m, hm⟩ : ∃ m, m = xs.length := ⟨_, rfl⟩
  obtain ⟨A1, c1, rfl, hr1, hA1, hc1, hm1⟩ := hown1.shape' hm.symm
  have hz1 := hb1.size
  rw [World.size_alloc] at hz1
  have HR1 := Lib.hid hr1
  have HA1 := Lib.hid hA1
  have HM := Lib.hid hm
  have HO1 := Lib.hid (HO0.out.below hb1 (by simp))
  have HB1 := Lib.hid (Below.trans ((Below.refl _ w).alloc (Nat.le_refl _) _) (hb1.mono (by simp)))
  have hmb : m ≤ 50000000 := by rw [hm]; exact HT.out
  clear hown1 hr1 hA1 hb1 hm HO0 HCat
  go_wp2_with fail
  refine (begin_any _).mono ?_
  rintro e w2 ⟨rfl, hb2⟩
  have HR2 := Lib.hid (HR1.out.below hb2)
  have HO2 := Lib.hid (HO1.out.below hb2 (by omega))
  have HB2 := Lib.hid (HB1.out.trans (hb2.mono HB1.out.size))
  have hz2 := hb2.size
  clear hb2 HR1 HO1 HB1
  go_wp2_with fail
  refine (longs_any _).mono ?_
  rintro e w3 ⟨rfl, hb3⟩
  have HR3 := Lib.hid (HR2.out.below (hb3.mono hz2))
  have HO3 := Lib.hid (HO2.out.below hb3 (by omega))
  have HB3 := Lib.hid (HB2.out.trans (hb3.mono HB2.out.size))
  have hz3 := hb3.size
  clear hb3 HR2 HO2 HB2
  have HS0 := Lib.hid (show Arr w64 ((w3.alloc (.cells ((List.replicate 8 0#64).map w64).toArray 70)).alloc (.cells noughts80 72)) w3.heap.size 70 (List.replicate 8 0#64) from (Arr.new w64 w3 _ _).alloc _)
  have HK0 := Lib.hid (show Arr w64 ((w3.alloc (.cells ((List.replicate 8 0#64).map w64).toArray 70)).alloc (.cells noughts80 72)) (w3.heap.size + 1) 72 (List.replicate 80 0#64) from Arr.at_size w64 _ (List.replicate 80 0#64) (by simp))
  go_wp2_with (first
    | (refine wpList_store_arr rfl 70 (.tmp 4) (.tmp 12) rfl w3.heap.size rfl begin64.list rfl _ _ HS0.out rfl size8w w64_one ?_; intro w4 hx4 hg4; have HS4 := Lib.hid hx4; have HG4 := Lib.hid hg4; have HK4 := Lib.hid (HK0.out.grown hg4 (by simp)); clear hx4 hg4)
    | (refine wpList_store_arr rfl 72 (.tmp 5) (.tmp 13) rfl (w3.heap.size + 1) rfl K64 rfl _ _ HK4.out (by kernel_rfl) (by rw [size80, K64_len]) w64_one ?_; intro w5 hx5 hg5; have HK5 := Lib.hid hx5; have HG5 := Lib.hid hg5; have HS5 := Lib.hid (HS4.out.grown hg5 (by simp)); clear hx5 hg5))
  have hg35 : w3.grownBy w5 none := by
    have h1 : w3.grownBy ((w3.alloc (.cells ((List.replicate 8 0#64).map w64).toArray 70)).alloc (.cells noughts80 72)) none := grown_alloc (World.grownBy_alloc w3 _ none) _
    exact grownBy_trans' (grownBy_trans' h1 HG4.out (Nat.le_refl _)) HG5.out (by omega)
  have hb35 : Below w3.heap.size w3 w5 := (Below.refl _ w3).grown hg35 (Nat.le_refl _) (fun k e => by cases e)
  have HR5 := Lib.hid (HR3.out.below (hb35.mono (by omega)))
  have HO5 := Lib.hid (HO3.out.below hb35 (by omega))
  have HB5 := Lib.hid (HB3.out.trans (hb35.mono HB3.out.size))
  have hz5 : w3.heap.size + 1 < w5.heap.size := HK5.out.lt
  clear hg35 hb35 HG4 HG5 HK4 HS4 HS0 HK0 HR3 HO3 HB3
  have hpd := padded_any xs m m 128 16 (.inr ⟨rfl, rfl⟩) (by omega) w5 w1.heap.size A1 c1 HR5.out (by omega) HM.out (fun e => by have := HA1.out e; omega) (by omega)
  have HPd := Lib.hid (show Calls Try.prog 45 #[.slice A1 m c1, .int .i64 (m : Int), .int .i64 128, .int .i64 16] w5 _ from hpd)
  clear hpd
  go_wp2_with fail
  refine HPd.out.mono ?_
  rintro e w6 ⟨v6, rfl, hown6, hb6⟩
  obtain ⟨P, hP⟩ : ∃ P, P = padded xs m 128 16 := ⟨_, rfl⟩
  obtain ⟨NP, hNP⟩ : ∃ NP, NP = P.length / 128 := ⟨_, rfl⟩
  have hPl : P.length = 128 * NP ∧ 0 < NP ∧ NP ≤ 1000000 := by
    have h1 := padZ_hit m 128 16 (.inr ⟨rfl, rfl⟩)
    have h2 := padZ_lt m 128 16 (.inr ⟨rfl, rfl⟩)
    have h3 : P.length = m + 1 + padZ m 128 16 + 16 := by
      rw [hP]; unfold padded
      rw [← HM.out, List.length_append, List.length_cons, List.length_append, List.length_replicate, beN_len, ← HM.out]; omega
    rw [hNP, h3]; omega
  rw [← hP] at hown6
  obtain ⟨b6, c6, e6, hb6g, hb6l, hc6⟩ := hown6.form' hPl.1 (by omega)
  subst e6
  have hz6 := hb6.size
  have HO6 := Lib.hid hown6
  have HS6 := Lib.hid (HS5.out.below hb6 HS5.out.lt)
  have HK6 := Lib.hid (HK5.out.below hb6 HK5.out.lt)
  have HR6 := Lib.hid (HO5.out.below hb6 (by omega))
  have HB6 := Lib.hid (HB5.out.trans (hb6.mono HB5.out.size))
  have HP := Lib.hid hP
  have HNPe := Lib.hid hNP
  have HPl := Lib.hid hPl.1
  have hNP3 : 0 < NP ∧ NP ≤ 1000000 := hPl.2
  clear hown6 hb6 hP hPl hNP HK5 HR5 HS5 HO5 HB5 HPd
  have hch := chunk_any (some ⟨b6, 0, none⟩) (128 * NP) c6 128 (by omega) (by omega) w6
  have HCh := Lib.hid (show Calls Try.prog 44 #[.slice (some ⟨b6, 0, none⟩) (128 * NP) c6, .int .i64 128] w6 _ from hch)
  clear hch
  go_wp2_with fail
  refine HCh.out.mono ?_
  rintro e w7 ⟨rfl, rfl⟩
  go_wp2_with fail
  generalize hW7 : World.alloc (World.alloc w6 _) _ = W7
  have hI7 : LgI w3.heap.size (w3.heap.size + 1) w.heap.size b6 c6 NP w6.heap.size (w6.heap.size + 1) P (foldC sha64 P begin64 ([] : List Nat)) W7 ∧ Below w.heap.size w W7 ∧ W7.heap.size = w6.heap.size + 2 := by
    rw [← hW7]
    refine ⟨⟨(HS6.out.alloc _).alloc _, (HK6.out.alloc _).alloc _, (HR6.out.alloc _).alloc _, ((HO6.out.less (Nat.zero_le _)).alloc _).alloc _, ?_, ?_⟩, ?_, by simp⟩
    · exact (Boxed.new w6 22 _).alloc _
    · have := Boxed.new (w6.alloc (.cells #[.slice (some ⟨b6, 0, none⟩) (128 * NP) c6] 22)) 3 (.int .i64 128)
      rw [World.size_alloc] at this
      exact this
    · exact (HB6.out.alloc (HB6.out.size) _).alloc (by have := HB6.out.size; simp; omega) _
  obtain ⟨hI7, hB7, hz7⟩ := hI7
  have hw6 : w3.heap.size + 1 < w6.heap.size := by omega
  have HI7 := Lib.hid hI7
  have HB7 := Lib.hid hB7
  have HZ7 := Lib.hid hz7
  clear hW7 HS6 HK6 HR6 HO6 HB6 HCh hI7 hB7 hz7
  refine (wpIn_wide (n := 9)).1 ?_
  refine wpIn_rangeFunc_ownF rfl (by omega) (gf := 55) (lb := #[.pointer (some ⟨w6.heap.size, 0, none⟩), .pointer (some ⟨w6.heap.size + 1, 0, none⟩)]) rfl trivial (enters_of Try.func55 (by kernel_rfl) rfl)
    (chunk_stops 8 (by omega) b6 c6 128 NP w6.heap.size (w6.heap.size + 1) w.heap.size (by omega) (by omega) (by omega) hc6 W7 HI7.out.s HI7.out.n)
    KpC.t (fun W l o o' hl ho hc hw => ⟨(Below.refl _ W).grown (grownBy_putObj' W l o') (by have := (Array.getElem?_eq_some_iff.1 ho).1; have := HZ7.out; omega) (fun k e => by cases e; have := HZ7.out; omega), World.putObj_heap_other (by have := HZ7.out; omega), World.putObj_heap_other (by have := HZ7.out; omega)⟩) (Below.refl _ _) (fun _ => rfl)
    (fun pre W => LgI w3.heap.size (w3.heap.size + 1) w.heap.size b6 c6 NP w6.heap.size (w6.heap.size + 1) P (foldC sha64 P begin64 (pre.map Subtype.val)) W ∧ Below w.heap.size w W)
    (fun _ _ _ => False)
    (OwnFrom.and (Go.Own.from (fun s A' B' row hs hg hr => hs.own hg hr) _) (ownFrom_below (Nat.le_refl _) (by have := HZ7.out; omega)))
    (fun c s A' B' row hs hg hr => hs)
    ⟨HI7.out, HB7.out⟩
    (fun x => { tmps := #[.slice (some ⟨b, off, none⟩) n c, undef, .pointer (some ⟨w.heap.size, 0, none⟩), .slice A1 m c1, .pointer (some ⟨w3.heap.size, 0, none⟩), .pointer (some ⟨w3.heap.size + 1, 0, none⟩), .slice (some ⟨b6, 128 * x.1, none⟩) 128 128, undef, undef, undef, .slice (some ⟨b, off, none⟩) n c, .slice A1 m c1, .agg (begin64.list.map w64).toArray, .agg (K64.map w64).toArray, .slice A1 m c1, .slice A1 m c1, .int .i64 m, .slice (some ⟨b6, 0, none⟩) (128 * NP) c6, .func (.func 55) #[] #[.pointer (some ⟨w6.heap.size, 0, none⟩), .pointer (some ⟨w6.heap.size + 1, 0, none⟩)], .slice (some ⟨b6, 128 * x.1, none⟩) 128 128, undef, undef, undef, undef, undef, undef, undef, undef, undef, undef, undef, undef, undef, undef, undef, undef, undef, undef, undef, undef, undef, undef, undef, undef, undef], defers := [] }) ?assign ?body ?done ?stop
  case assign =>
    intro l x W K hK
    simp only [encC, List.zip_toArray, List.zip_cons_cons, List.zip_nil_right, List.zip_nil_left, List.foldl_toArray', List.foldl_toArray, List.foldl_cons, List.foldl_nil, List.setIfInBounds_toArray, List.set_cons_zero, List.set_cons_succ]
    gi_wp2
    exact hK
  case body =>
    rintro l pre x W ⟨hI, hB⟩ hN
    have hx := x.2
    have hxl : 128 * x.1 + 128 ≤ P.length := by rw [HPl.out]; omega
    have hcell : ∀ i, i < 128 → W.cell? ⟨b6, 128 * x.1 + i, none⟩ = some (b8 (((P.drop (128 * x.1)).take 128).getD i 0#8)) := fun i hi => by
      have h2 : 128 * x.1 + i < P.length := by omega
      rw [getD_drop_take _ _ _ _ hi h2]
      exact (hI.p.at_ h2).1
    have hpl : ((P.drop (128 * x.1)).take 128).length = 128 := by rw [List.length_take, List.length_drop]; omega
    have hpc := wide_any (w3.heap.size + 1) b6 (128 * x.1) 128 (foldC sha64 P begin64 (pre.map Subtype.val)) ((P.drop (128 * x.1)).take 128) W hI.k hpl (hI.p.lt b6 rfl).2 hcell
    have hsn := foldC_snoc sha64 P begin64 (pre.map Subtype.val) x.1
    rw [show sha64.size = 128 from rfl] at hsn
    rw [← hsn] at hpc
    generalize hs0 : foldC sha64 P begin64 (pre.map Subtype.val) = s0 at hI hpc
    generalize hs1 : foldC sha64 P begin64 (pre.map Subtype.val ++ [x.1]) = s1 at hpc
    have HS1 := Lib.hid hs1
    have HPc := Lib.hid hpc
    have HI := Lib.hid hI
    have HB := Lib.hid hB
    clear hcell hpl hpc hI hB hx hxl hs0 hs1 hsn
    gi_wp2_with (refine wpListIn_load_arr rfl 70 (.tmp 4) rfl w3.heap.size rfl _ s0.list HI.out.e _ Try.underlying70 rfl (by rw [S8.list_len]; exact size8w) ?_)
    refine ⟨trivial, ?_⟩
    refine (CallsIn.inRound l (callsIn_wide.2 HPc.out)).mono ?_
    rintro e W2 ⟨rfl, hb2⟩
    have HI2 := Lib.hid (HI.out.below hb2)
    have HBb := Lib.hid hb2
    have hz8 := hb2.size
    clear hb2
    gi_wp2_with (refine wpListIn_store_arr rfl 70 (.tmp 4) (.tmp 22) rfl w3.heap.size rfl s1.list rfl _ _ HI2.out.e rfl size8w w64_one ?_; intro w8 hx8 hg8; have HX8 := Lib.hid hx8; have HG8 := Lib.hid hg8; clear hx8 hg8)
    have hne := arr_not_own HI2.out.e (by decide) HI2.out.p
    have hbw : Below w.heap.size W w8 := (HBb.out.mono HB.out.size).grown HG8.out (by have := HB.out.size; omega) (fun k e => by cases e; omega)
    have hi8 : LgI w3.heap.size (w3.heap.size + 1) w.heap.size b6 c6 NP w6.heap.size (w6.heap.size + 1) P (foldC sha64 P begin64 ((pre ++ [x]).map Subtype.val)) w8 := by
      rw [List.map_append, List.map_cons, List.map_nil, HS1.out]
      exact ⟨HX8.out, HI2.out.k.grown HG8.out (by simp), HI2.out.o.grown HG8.out (by simp; omega), HI2.out.p.kept HG8.out (.inr (fun e => hne e.symm)), HI2.out.s.kept HG8.out (by simp; omega), HI2.out.n.kept HG8.out (by simp; omega)⟩
    refine ⟨?_, ⟨hbw, (HG8.out.block _ HI2.out.s.lt (by simp; omega)).trans (HBb.out.block _ HI.out.s.lt), (HG8.out.block _ HI2.out.n.lt (by simp; omega)).trans (HBb.out.block _ HI.out.n.lt)⟩, hi8, HB.out.trans hbw⟩
    refine (KeepsOthers.of_grownBy (grown_none2 HBb.out) (fun j o e => by cases e)).trans (KeepsOthers.of_grownBy HG8.out (fun j o e ho => ?_))
    cases e
    have : W2.heap[w3.heap.size]? = some (.cells _ _ (0, 0)) := HI2.out.e
    rw [this] at ho; cases ho; rfl
  case done =>
    rintro D ys W hD hys ⟨hI, hB⟩ hK
    obtain ⟨R, hR⟩ : ∃ R, R = sha64.pieces NP P begin64 := ⟨_, rfl⟩
    rw [hys, foldC_range, ← hR] at hI
    have HI := Lib.hid hI
    have HB := Lib.hid hB
    have HK := Lib.hid hK
    have HR := Lib.hid hR
    clear hI hB hK hR hys
    go_wp2_with (refine wpList_load_arr rfl 70 (.tmp 4) rfl w3.heap.size rfl _ R.list HI.out.e _ Try.underlying70 rfl (by rw [S8.list_len]; exact size8w) ?_)
    obtain ⟨O, hO⟩ : ∃ O, O = R.list.flatMap bytes64 := ⟨_, rfl⟩
    have hOl : O.length = 64 := by rw [hO, out64_len]
    have hOa := HI.out.o
    have HA0 := Lib.hid (show Arr b8 W w.heap.size 35 (fillTo O (8 * 0)) from hOa.cast (by rw [fillTo_0, hOl]))
    have HOl := Lib.hid hOl
    have HOe := Lib.hid hO
    clear hO hOl hOa
    have hDz : w.heap.size < D := by have := HZ7.out; omega
    have HDz := Lib.hid (show D ≠ w.heap.size by omega)
    go_loopw [24] (fun v wr => ∃ i : Nat, i ≤ 8 ∧ v = .int .i64 i ∧ Arr b8 wr w.heap.size 35 (fillTo O (8 * i)) ∧ Below w.heap.size w wr ∧ wr.heap[D]? = some (.deferred (some []))) (fun v _ => 8 - (intOf v).toNat)
    case atStart => exact ⟨0, by omega, rfl, HA0.out, HB.out, HK.out⟩
    case round =>
      clear HA0
      obtain ⟨i, hi, rfl, ha, hb, hk⟩ := hrel
      have HA := Lib.hid ha
      have HB2 := Lib.hid hb
      have HK2 := Lib.hid hk
      clear ha hb hk
      by_cases hlt : i < 8
      · have ci := fun w => run_idx64 (xs := R.list) (i := i) (S8.list_len _) hlt w
        have hat := fun j (hj : j < 8) => out64_at R i j hlt hj
        rw [← HOe.out] at hat
        generalize R.list.getD i 0#64 = x at ci hat
        simp only [w64] at ci
        have Hat := Lib.hid hat
        clear hat
        go_wp2_with fail
        clear ci
        go_loopw [28] (fun v wr => ∃ j : Nat, j ≤ 8 ∧ v = .int .i64 j ∧ Arr b8 wr w.heap.size 35 (fillTo O (8 * i + j)) ∧ Below w.heap.size w wr ∧ wr.heap[D]? = some (.deferred (some []))) (fun v _ => 8 - (intOf v).toNat)
        case atStart => exact ⟨0, by omega, rfl, HA.out, HB2.out, HK2.out⟩
        case round =>
          clear HA HB2 HK2
          obtain ⟨j, hj, rfl, ha, hb, hk⟩ := hrel
          have HA := Lib.hid ha
          have HB2 := Lib.hid hb
          have HK2 := Lib.hid hk
          clear ha hb hk
          by_cases hlt2 : j < 8
          · have c1 := HA.out.cellD (k := 8 * i + j) (by rw [fillTo_len _ _ (by rw [HOl.out]; omega), HOl.out]; omega) 0#8
            have f1 := HA.out.frozen (8 * i + j)
            have i1 : (0 : Int) ≤ 8 * (i : Int) + (j : Int) := by omega
            have i2 : 8 * (i : Int) + (j : Int) < 64 := by omega
            obtain ⟨q, hq⟩ : ∃ q, q = 56 - 8 * j := ⟨_, rfl⟩
            have e1 : (56 : Int) - 8 * (j : Int) = (q : Int) := by omega
            have Hq := Lib.hid hq
            clear hq
            go_wp2_with fail
            go_roundw
            case rel =>
              refine ⟨j + 1, by omega, by go_num, ?_, HB2.out.setCell (p := ⟨w.heap.size, _, none⟩) (Nat.le_refl _) _, (Below.heap_setCell _ ⟨w.heap.size, _, none⟩ _ _ HDz.out).trans HK2.out⟩
              have h2 := HA.out.set_ (8 * i + j) ((x >>> q).setWidth 8)
              refine h2.cast ?_
              rw [Hq.out, ← Hat.out j hlt2]
              exact fillTo_set _ _ (by rw [HOl.out]; omega)
            case measure => simp [intOf]; omega
          · obtain rfl : j = 8 := by omega
            rw [show (((8 : Nat)) : Int) = 8 from rfl]
            go_wp2_with fail
            go_roundw
            case rel => exact ⟨i + 1, by omega, by go_num, HA.out.cast (by congr 1), HB2.out, HK2.out⟩
            case measure => simp [intOf]; omega
      · obtain rfl : i = 8 := by omega
        rw [show (((8 : Nat)) : Int) = 8 from rfl]
        have HA2 := Lib.hid (show Arr b8 wr w.heap.size 35 O from HA.out.cast (by have := fillTo_all O; rw [HOl.out] at this; exact this))
        clear HA
        go_wp2_with (first
          | refine wpList_load_arr rfl 35 _ rfl w.heap.size rfl _ O HA2.out _ Try.underlying35 rfl (by rw [size64b, HOl.out]) ?_
          | (refine wpList_store_arr rfl 35 _ _ rfl w.heap.size rfl O rfl _ _ HA2.out rfl (by rw [size64b, HOl.out]) b8_one' ?_; intro w9 hx9 hg9))
        have hK9 : w9.heap[D]? = some (.deferred (some [])) := (hg9.block D (by have := (Array.getElem?_eq_some_iff.1 HK2.out).1; exact this) (by simpa using HDz.out)).trans HK2.out
        have hb9 : Below w.heap.size w w9 := HB2.out.grown hg9 HB2.out.size (fun k e => by cases e; exact Nat.le_refl _)
        refine ⟨by simp, .inl ⟨_, _, rfl, run_takeDeferred hK9, ?_⟩⟩
        have hx10 := arrO hx9 (grownBy_putObj' _ D (.deferred none)) (fun r e => by cases e; exact ⟨_, hK9, rfl⟩)
        refine ⟨_, results_arr (g := w.heap.size) rfl _ _ _ _ _ rfl hx10 Try.underlying35 rfl (by rw [size64b, HOl.out]), ?_, ?_⟩
        · rw [arrV_mk, HOe.out, HR.out]
          unfold sum64
          rw [HNPe.out, HP.out, HM.out]
        · exact hb9.trans (belowK_b (w := w) (Nat.le_refl _) _ D _ _ (by omega) hK9 rfl rfl)
  case stop =>
    rintro D c' pre W hD hpre h hK
    exact h.elim
end Go.Proofs.Ytgeighnfgniamaa
