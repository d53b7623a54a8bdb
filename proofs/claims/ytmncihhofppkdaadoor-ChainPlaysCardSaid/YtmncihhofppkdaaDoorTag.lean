/- CONTRACT: kdf.Tag, kdf.Extract. -/
import Derived.Test.YtmncihhofppkdaaDoorKpad
namespace Go.Proofs.YtmncihhofppkdaaDoor
open Go.RowKit
set_option linter.unusedVariables false
set_option linter.unusedSimpArgs false

/-- a whole array is stored over another one: as one step of a region that draws its order -/
theorem step_store_arr {P : Program} {α : Type} {f : α → Value} {ops : Array Oper} {o : Oper} {a : Act} {w : World} {K : Act → World → Prop} {Q : Exit → Act → World → Prop} {F : Prop} (hgd : o.guard = none) (ty : TypeId) (x y : Operand) (ho : o.op = .store ty x y)
    (g : Nat) (hx : a.eval x = .pointer (some ⟨g, 0, none⟩)) (ys : List α) (hy : a.eval y = .agg (ys.map f).toArray) (T : TypeId) (xs : List α) (hA : Arr f w g T xs) (hl : xs.length = ys.length)
    (hi : (P.info? ty).map (·.size) = some ys.length) (h1 : ∀ u, (f u).oneCell' = true)
    (h : ∀ w', Arr f w' g T ys → w.grownBy w' (some g) → K (a.put o.dst undef) w') : if Region.wanted o (yielded ops a.tmps) = true then Oper.wp P o a w K Q else F := by
  have hw : Region.wanted o (yielded ops a.tmps) = true := by simp [Region.wanted, hgd]
  rw [if_pos hw]
  obtain ⟨h2, h3⟩ := arr_setCells (f := f) ys [] xs w hl hA
  refine wp_store_mid ty x y ho g 0 (ys.map f).toArray hx hy ?_ ?_ ?_ ?_
  · exact hA.there (by simp [hl])
  · rw [hi]; simp
  · exact all_oneCell_toArray (fun v hv => by obtain ⟨u, _, rfl⟩ := List.mem_map.1 hv; exact h1 u)
  · simp only
    exact h _ h2 h3
def tagV (key text : List (BitVec 8)) : List (BitVec 8) := sum32 (kpad key 92#8 ++ sum32 (kpad key 54#8 ++ text))
theorem tagV_len (key text : List (BitVec 8)) : (tagV key text).length = 32 := sum32_len _
theorem short_two (W : World) (B n c m d : Nat) (A C : Option Addr) (xs ys : List (BitVec 8)) (hr : Rd b8 W B A xs) (hr2 : Rd b8 W B C ys) (hB : B ≤ W.heap.size) (hn : n = xs.length) (hm : m = ys.length) (htot : xs.length + ys.length ≤ 50000000) :
    Calls Tryd.prog 76 #[.slice (some ⟨W.heap.size, 0, none⟩) 2 2] (W.alloc (.cells #[.slice A n c, .slice C m d] 30)) fun e w' => e = .returned (arrV b8 (sum32 (xs ++ ys))) ∧ Below W.heap.size W w' :=
  short_n W B 2 [((A, n, c), xs), ((C, m, d), ys)] _ rfl (by simpa using ⟨hr, hr2⟩) (by simpa using ⟨hn, hm⟩) hB rfl (by omega) (xs ++ ys) (by simp) (by simpa using htot)

set_option maxRecDepth 100000 in
set_option maxHeartbeats 1000000 in
theorem tag_any (w : World) (Bk n c : Nat) (A : Option Addr) (key : List (BitVec 8)) (hk : Rd b8 w Bk A key) (hBk : Bk ≤ w.heap.size) (hn : n = key.length) (hkb : key.length ≤ 40000000)
    (B b off d m : Nat) (ps : List Pt) (hp : Pts w B b off ps) (hB : B ≤ w.heap.size) (hm : m = ps.length) (hm2 : m ≤ 100000) (xs : List (BitVec 8)) (hxs : xs = ps.flatMap fun p => p.2) (htot : xs.length ≤ 40000000) :
    Calls Tryd.prog 69 #[.slice A n c, .slice (some ⟨b, off, none⟩) m d] w fun e w' => e = .returned (arrV b8 (tagV key xs)) ∧ Below w.heap.size w w' := by
  have HK := Lib.hid hk
  have HN := Lib.hid hn
  have HP := Lib.hid hp
  have HM := Lib.hid hm
  have HX := Lib.hid hxs
  have HT := Lib.hid htot
  have hnb : n ≤ 40000000 := by omega
  have HO0 := Lib.hid (Arr.new b8 w 23 (List.replicate 32 0#8))
  clear hk hn hp hm hxs htot hkb
  go_enter Tryd.func69, Tryd.ntmps69
  go_wp2_with fail
  refine (new_any _).mono ?_
  rintro e w1 ⟨rfl, hd1, hb1⟩
  have hz1 := hb1.size
  rw [World.size_alloc] at hd1 hb1 hz1
  have HD1 := Lib.hid (show DigT w1 (w.heap.size + 1) (w.heap.size + 1) [] from DigT.nil_ hd1)
  have hl1 : w.heap.size + 1 < w1.heap.size := hd1.lt
  have HO1 := Lib.hid (HO0.out.below hb1 (by omega))
  have HB1 := Lib.hid (Below.trans ((Below.refl _ w).alloc (Nat.le_refl _) _) (hb1.mono (Nat.le_succ _)))
  clear hd1 hb1 HO0
  have hpk := fun x W (hW : Below w.heap.size w W) => kpad_any W Bk n c A key x (HK.out.below (hW.mono hBk)) (Nat.le_trans hBk hW.size) HN.out (by omega)
  have HPk := Lib.hid hpk
  clear hpk
  have hpk1 := HPk.out 54#8 w1 HB1.out
  rw [show bv 54#8 = 54 from rfl] at hpk1
  have HPk1 := Lib.hid hpk1
  clear hpk1
  go_wp2_with fail
  refine HPk1.out.mono ?_
  rintro e w2 ⟨v2, rfl, hown2, hb2⟩
  obtain ⟨g2, c2, rfl, hg2, hg2l, -⟩ := hown2.form' (kpad_len key 54#8) (by omega)
  have hz2 := hb2.size
  have HD2 := Lib.hid (HD1.out.below hb2 (Nat.le_refl _))
  have HO2 := Lib.hid (HO1.out.below hb2 (by omega))
  have HB2 := Lib.hid (HB1.out.trans (hb2.mono (by omega)))
  have hadd := add_any w2 (w.heap.size + 1) (w.heap.size + 1) w2.heap.size 64 c2 (some ⟨g2, 0, none⟩) [] (kpad key 54#8) HD2.out (by omega) hown2.rd (Nat.le_refl _) (by rw [kpad_len]) (fun a _ e => by cases e; show g2 ≠ _; omega) (by rw [kpad_len]; simp)
  rw [List.nil_append] at hadd
  have HAdd := Lib.hid hadd
  clear hown2 hb2 hadd HD1 HO1 HB1 HPk1
  go_wp2_with fail
  refine HAdd.out.mono ?_
  rintro e w3 ⟨rfl, hd3, hg3⟩
  have hz3 := hg3.size
  have HD3 := Lib.hid (show DigT w3 (w.heap.size + 1) (w.heap.size + 1) (kpad key 54#8 ++ allTo ps 0) from (by unfold allTo; simpa using hd3.less (B' := w.heap.size + 1) (by omega)))
  have HO3 := Lib.hid (HO2.out.grown hg3 (by simp))
  have HB3 := Lib.hid (HB2.out.grown hg3 HB2.out.size (fun k e => by cases e; omega))
  clear hd3 hg3 HD2 HO2 HB2 HAdd
  go_wp2_with fail
  go_loopw [16] (fun v wr => ∃ k : Nat, k ≤ m ∧ v = .int .i64 k ∧ DigT wr (w.heap.size + 1) (w.heap.size + 1) (kpad key 54#8 ++ allTo ps k) ∧ Arr b8 wr w.heap.size 23 (List.replicate 32 0#8) ∧ Below w.heap.size w wr) (fun v _ => m - (intOf v).toNat)
  case atStart => exact ⟨0, by omega, rfl, HD3.out, HO3.out, HB3.out⟩
  case round =>
    clear HD3 HO3 HB3
    obtain ⟨k, hk, rfl, hd, ho, hb⟩ := hrel
    have HD := Lib.hid hd
    have HO := Lib.hid ho
    have HB := Lib.hid hb
    have hz := hd.lt
    clear hd ho hb
    by_cases hlt : k < m
    · have hk' : k < ps.length := by rw [← HM.out]; exact hlt
      have hp2 := HP.out.below HB.out hB HP.out.lt
      have h1 := hp2.row k _ (List.getElem?_eq_getElem hk')
      have h2 := hp2.len _ (List.getElem_mem hk')
      have h3 := hp2.rd _ (List.getElem_mem hk')
      have h4 := lenTo_mono ps (k + 1) ps.length (by omega)
      rw [lenTo_all, lenTo_succ ps k hk', ← HX.out] at h4
      have h5 := HT.out
      have h6 := allTo_succ ps k hk'
      have h7 := allTo_len ps k
      obtain ⟨⟨⟨A', m', cc⟩, ys⟩, hu⟩ : ∃ u, ps[k] = u := ⟨_, rfl⟩
      rw [hu] at h1 h2 h3 h4 h6
      simp only [sl] at h1 h2 h3 h4 h6
      have hc := add_any wr (w.heap.size + 1) (w.heap.size + 1) B m' cc A' (kpad key 54#8 ++ allTo ps k) ys HD.out (by omega) h3 (by omega) h2 (fun a hl e => by
        obtain ⟨b', off', e', hb', -⟩ := h3 hl
        rw [e] at e'; cases e'
        show b' ≠ _; omega) (by rw [List.length_append, kpad_len]; omega)
      rw [List.append_assoc, ← h6] at hc
      have HC := Lib.hid hc
      clear hp2 h2 h3 h4 h5 h6 h7 hu hc
      go_wp2_with fail
      refine HC.out.mono ?_
      rintro e w2 ⟨rfl, hd2, hg2⟩
      have HD2 := Lib.hid (hd2.less (B' := w.heap.size + 1) (by omega))
      have HO2 := Lib.hid (HO.out.grown hg2 (by simp))
      have HB2 := Lib.hid (HB.out.grown hg2 HB.out.size (fun k e => by cases e; omega))
      clear hd2 hg2
      go_wp2_with fail
      go_roundw
      case rel => exact ⟨k + 1, by omega, by go_num, HD2.out, HO2.out, HB2.out⟩
      case measure => simp [intOf]; omega
    · obtain rfl : k = m := by omega
      have hall : allTo ps k = xs := by unfold allTo; rw [HM.out, List.take_length, HX.out]
      have hd := HD.out
      rw [hall] at hd
      obtain ⟨S, hS⟩ : ∃ S, S = sum32 (kpad key 54#8 ++ xs) := ⟨_, rfl⟩
      have hs := sum_any wr (w.heap.size + 1) (w.heap.size + 1) (kpad key 54#8 ++ xs) hd (by rw [List.length_append, kpad_len]; have := HT.out; omega)
      rw [arrV_mk, ← hS] at hs
      have HS := Lib.hid hs
      have HSe := Lib.hid hS
      have HSl := Lib.hid (show S.length = 32 by rw [hS]; exact sum32_len _)
      clear hall hd hs hS
      go_wp2_with fail
      refine HS.out.mono ?_
      rintro e w5 ⟨rfl, hb5⟩
      have hz5 := hb5.size
      have HO5 := Lib.hid (HO.out.below hb5 (by omega))
      have HB5 := Lib.hid (HB.out.trans (hb5.mono HB.out.size))
      have HT5 := Lib.hid (Arr.new b8 w5 23 (List.replicate 32 0#8))
      clear hb5 HO HB HD HS
      go_wp2_with (refine wpList_store_arr rfl 23 (.tmp 8) (.tmp 25) rfl w5.heap.size rfl S rfl _ _ HT5.out (by rw [HSl.out]; rfl) (by rw [size32, HSl.out]) b8_one' ?_; intro w6 hx6 hg6)
      have hz6 : w5.heap.size < w6.heap.size := hx6.lt
      have HS6 := Lib.hid hx6
      have HO6 := Lib.hid ((HO5.out.alloc (.cells ((List.replicate 32 0#8).map b8).toArray 23)).grown hg6 (by simp; omega))
      have HB6 := Lib.hid ((HB5.out.alloc HB5.out.size (.cells ((List.replicate 32 0#8).map b8).toArray 23)).grown hg6 (by simp; omega) (fun k e => by cases e; omega))
      clear hx6 hg6 HT5 HO5 HB5
      have hpk2 := HPk.out 92#8 w6.drew HB6.out.drew
      rw [show bv 92#8 = 92 from rfl] at hpk2
      have HPk2 := Lib.hid hpk2
      obtain ⟨Z, hZ⟩ : ∃ Z, Z = (tagV key xs).map b8 := ⟨_, rfl⟩
      have hZl : Z.length = 32 := by rw [hZ, List.length_map, tagV_len]
      have hZi : (Tryd.prog.info? 23).map (·.size) = some Z.length := by rw [hZl]; exact size32
      have hZo : ∀ v ∈ Z, v.oneCell' = true := by rw [hZ]; intro v hv; obtain ⟨u, -, rfl⟩ := List.mem_map.1 hv; exact b8_one u
      have hsh : ∀ (W : World) (g7 c7 : Nat), Rd b8 W W.heap.size (some ⟨g7, 0, none⟩) (kpad key 92#8) → Rd b8 W W.heap.size (some ⟨w5.heap.size, 0, none⟩) S → Calls Tryd.prog 76 #[.slice (some ⟨W.heap.size, 0, none⟩) 2 2] (W.alloc (.cells #[.slice (some ⟨g7, 0, none⟩) 64 c7, .slice (some ⟨w5.heap.size, 0, none⟩) 32 32] 30)) fun e w' => e = .returned (.agg Z.toArray) ∧ Below W.heap.size W w' := fun W g7 c7 h1 h2 => by
        have := short_two W W.heap.size 64 c7 32 32 _ _ _ _ h1 h2 (Nat.le_refl _) (by rw [kpad_len]) HSl.out.symm (by rw [kpad_len, HSl.out]; omega)
        rwa [arrV_mk, HSe.out, show sum32 (kpad key 92#8 ++ sum32 (kpad key 54#8 ++ xs)) = tagV key xs from rfl, ← hZ] at this
      have HSh := Lib.hid hsh
      have HZ := Lib.hid hZ
      clear hpk2 hsh hZ
      go_frame
      go_region_held3 (fun _ => True) (trivial)
        (first
          | (go_simp; refine HPk2.out.mono ?_; rintro e w7 ⟨v7, rfl, hown7, hb7⟩; obtain ⟨g7, c7, rfl, hg7, hg7l, -⟩ := hown7.form' (kpad_len key 92#8) (by omega); have HO7 := Lib.hid (hown7.less (Nat.zero_le _)); have hz7 : w6.heap.size ≤ w7.heap.size := hb7.size; have HB7 := Lib.hid hb7; clear hown7 hb7)
          | (go_simp; refine (HSh.out w7 g7 c7 HO7.out.rd (((HS6.out.drew.below HB7.out hz6).rd 0).more (by omega))).mono ?_; rintro e w8 ⟨rfl, hb8⟩; have HA8 := Lib.hid ((HO6.out.drew.below HB7.out (by show w.heap.size < w6.heap.size; omega)).below hb8 (by omega)); have ht8 : w8.there w.heap.size 0 32 := HA8.out.there (Nat.le_refl _); have HB8 := Lib.hid hb8; clear hb8))
      obtain ⟨hx9, hg9⟩ := arr_setCells (f := b8) (tagV key xs) [] _ w8 (by rw [tagV_len]; rfl) HA8.out
      rw [← HZ.out] at hx9 hg9
      go_wp2_with fail
      refine bodyPost_ret (v := arrV b8 (tagV key xs)) (results_arr (g := w.heap.size) rfl _ _ _ _ _ rfl hx9 Tryd.underlying23 rfl (by rw [tagV_len]; exact size32)) rfl ?_
      refine ⟨rfl, ?_⟩
      have hb68 : Below w6.heap.size w6 w8 := (((Below.refl _ w6).drew).trans HB7.out).trans (HB8.out.mono hz7)
      have hbw := HB6.out.trans (hb68.mono HB6.out.size)
      exact hbw.grown hg9 hbw.size (fun k e => by cases e; omega)
theorem pts_one (W : World) (B n c : Nat) (A : Option Addr) (xs : List (BitVec 8)) (hr : Rd b8 W B A xs) (hB : B ≤ W.heap.size) (hn : n = xs.length) : Pts (W.alloc (.cells #[.slice A n c] 30)) B W.heap.size 0 [((A, n, c), xs)] :=
  pts_new W B [((A, n, c), xs)] (by simpa using hr) (by simpa using hn) hB
theorem tag_one (W : World) (Bk n c B m d : Nat) (A C : Option Addr) (key xs : List (BitVec 8)) (hk : Rd b8 W Bk A key) (hBk : Bk ≤ W.heap.size) (hn : n = key.length) (hkb : key.length ≤ 40000000) (hr : Rd b8 W B C xs) (hB : B ≤ W.heap.size) (hm : m = xs.length) (htot : xs.length ≤ 40000000) :
    Calls Tryd.prog 69 #[.slice A n c, .slice (some ⟨W.heap.size, 0, none⟩) 1 1] (W.alloc (.cells #[.slice C m d] 30)) fun e w' => e = .returned (arrV b8 (tagV key xs)) ∧ Below W.heap.size W w' := by
  refine (tag_any _ Bk n c A key (hk.alloc hBk _) (by simp; omega) hn hkb B W.heap.size 0 1 1 _ (pts_one W B m d C xs hr hB hm) (by simp; omega) rfl (by omega) xs (by simp) htot).mono ?_
  rintro e w' ⟨rfl, hb⟩
  exact ⟨rfl, ((Below.refl _ W).alloc (Nat.le_refl _) _).trans (hb.mono (by simp))⟩
theorem tag_two (W : World) (Bk n c B m1 d1 m2 d2 : Nat) (A C1 C2 : Option Addr) (key xs ys : List (BitVec 8)) (hk : Rd b8 W Bk A key) (hBk : Bk ≤ W.heap.size) (hn : n = key.length) (hkb : key.length ≤ 40000000) (hr1 : Rd b8 W B C1 xs) (hr2 : Rd b8 W B C2 ys) (hB : B ≤ W.heap.size) (hm1 : m1 = xs.length) (hm2 : m2 = ys.length) (htot : xs.length + ys.length ≤ 40000000) :
    Calls Tryd.prog 69 #[.slice A n c, .slice (some ⟨W.heap.size, 0, none⟩) 2 2] (W.alloc (.cells #[.slice C1 m1 d1, .slice C2 m2 d2] 30)) fun e w' => e = .returned (arrV b8 (tagV key (xs ++ ys))) ∧ Below W.heap.size W w' := by
  refine (tag_any _ Bk n c A key (hk.alloc hBk _) (by simp; omega) hn hkb B W.heap.size 0 2 2 _ (pts_new W B [((C1, m1, d1), xs), ((C2, m2, d2), ys)] (by simpa using ⟨hr1, hr2⟩) (by simpa using ⟨hm1, hm2⟩) hB) (by simp; omega) rfl (by omega) (xs ++ ys) (by simp) (by simpa using htot)).mono ?_
  rintro e w' ⟨rfl, hb⟩
  exact ⟨rfl, ((Below.refl _ W).alloc (Nat.le_refl _) _).trans (hb.mono (by simp))⟩
theorem tag_three (W : World) (Bk n c B m1 d1 m2 d2 m3 d3 : Nat) (A C1 C2 C3 : Option Addr) (key xs ys zs : List (BitVec 8)) (hk : Rd b8 W Bk A key) (hBk : Bk ≤ W.heap.size) (hn : n = key.length) (hkb : key.length ≤ 40000000) (hr1 : Rd b8 W B C1 xs) (hr2 : Rd b8 W B C2 ys) (hr3 : Rd b8 W B C3 zs) (hB : B ≤ W.heap.size) (hm1 : m1 = xs.length) (hm2 : m2 = ys.length) (hm3 : m3 = zs.length) (htot : xs.length + ys.length + zs.length ≤ 40000000) :
    Calls Tryd.prog 69 #[.slice A n c, .slice (some ⟨W.heap.size, 0, none⟩) 3 3] (W.alloc (.cells #[.slice C1 m1 d1, .slice C2 m2 d2, .slice C3 m3 d3] 30)) fun e w' => e = .returned (arrV b8 (tagV key (xs ++ ys ++ zs))) ∧ Below W.heap.size W w' := by
  refine (tag_any _ Bk n c A key (hk.alloc hBk _) (by simp; omega) hn hkb B W.heap.size 0 3 3 _ (pts_new W B [((C1, m1, d1), xs), ((C2, m2, d2), ys), ((C3, m3, d3), zs)] (by simpa using ⟨hr1, hr2, hr3⟩) (by simpa using ⟨hm1, hm2, hm3⟩) hB) (by simp; omega) rfl (by omega) (xs ++ ys ++ zs) (by simp) (by simp; omega)).mono ?_
  rintro e w' ⟨rfl, hb⟩
  exact ⟨rfl, ((Below.refl _ W).alloc (Nat.le_refl _) _).trans (hb.mono (by simp))⟩
end Go.Proofs.YtmncihhofppkdaaDoor
