/- CONTRACTS: burrowref02.Label, burrowref02.Derive (no context, a label that is a constant). -/
import Derived.Test.YtmncihhofppkdaaDoorLabel
import Derived.Test.YtmncihhofppkdaaDoorRefExp
import Derived.Lib.AppendStr
namespace Go.Proofs.YtmncihhofppkdaaDoor
open Go.RowKit
set_option linter.unusedVariables false
set_option linter.unusedSimpArgs false

theorem strCells_of {S : ByteArray} {lab : List (BitVec 8)} (h : StrOf S lab) : Lib.strCells S = lab.map b8 := by
  unfold StrOf at h
  rw [← h, List.map_map]
  unfold Lib.strCells
  apply List.map_congr_left
  intro x _
  show Value.int .u8 (x.toNat : Int) = b8 (BitVec.ofNat 8 x.toNat)
  unfold b8 bv
  rw [BitVec.toNat_ofNat, Nat.mod_eq_of_lt x.toNat_lt]

theorem own_app_str {w : World} {B E : Nat} {v : Value} {xs lab : List (BitVec 8)} {S : ByteArray} (hS : StrOf S lab) {n : Nat} (hn : xs.length = n) (h : w.ownsRow B E 1 v (n + S.size) (xs.map b8 ++ Lib.strCells S)) : Own b8 w B E v (xs ++ lab) := by
  unfold Own
  rw [List.length_append, hn, ← hS.size, List.map_append, ← strCells_of hS]
  exact h
theorem wrap8M (n : Nat) : IntKind.u8.wrap ((n : Int) % 256) = bv (BitVec.ofNat 8 n) := by
  have h := wrap8L (n % 256)
  rw [show ((n % 256 : Nat) : Int) = (n : Int) % 256 by omega] at h
  rw [h]
  congr 1
  apply BitVec.eq_of_toNat_eq
  simp

set_option maxRecDepth 100000 in
set_option maxHeartbeats 2000000 in
theorem refLabel_any (w : World) (sec : List (BitVec 8)) (hsec : sec.length = 32) (S : ByteArray) (lab : List (BitVec 8)) (hS : StrOf S lab) (hl : lab.length ≤ 255) (N : Nat) (hN : N ≤ 8160) :
    Calls Tryd.prog 32 #[arrV b8 sec, .string S, .slice none 0 0, .int .i64 (N : Int)] w fun e w' => ∃ A c, e = .returned (.tuple #[.slice A N c, .bool true]) ∧
      Own b8 w' w.heap.size 5 (.slice A N c) (labV sec lab N) ∧ Below w.heap.size w w' := by
  obtain ⟨i0, hi0, hz0, hz1, hz2⟩ := info_parts infoU8
  have hz := hS.size
  have h1 : ¬ ((S.size : Int) > 255) := by omega
  have h2 : ¬ ((N : Int) < 0) := by omega
  have h3 : ¬ ((N : Int) > 8160) := by omega
  have HS := Lib.hid hsec
  have HA0 := Lib.hid (Arr.new b8 w 23 sec)
  have HB0 := Lib.hid ((Below.refl w.heap.size w).alloc (Nat.le_refl _) (.cells (sec.map b8).toArray 23))
  have hz0' : (w.alloc (.cells (sec.map b8).toArray 23)).heap.size = w.heap.size + 1 := by simp
  rw [arrV_mk]
  have HZ := Lib.hid hz
  clear hsec hz
  go_enter Tryd.func32, Tryd.ntmps32
  go_upto_region 4 with fail
  generalize w.alloc (.cells (sec.map b8).toArray 23) = w1 at HA0 HB0 hz0' ⊢
  have e0 := wrap8M N
  have e1 : IntKind.u8.wrap ((N : Int) / 256) = bv (BitVec.ofNat 8 (N / 256)) := by rw [← wrap8L]; congr 1
  have e2 := wrap8L S.size
  obtain ⟨L3, hL3⟩ : ∃ L3 : List (BitVec 8), L3 = [BitVec.ofNat 8 (N / 256), BitVec.ofNat 8 N, BitVec.ofNat 8 S.size] := ⟨_, rfl⟩
  have HL3 := Lib.hid hL3
  have HO0 := Lib.hid (show Own b8 (w1.alloc (.cells #[.int .u8 (bv (BitVec.ofNat 8 (N / 256))), .int .u8 (bv (BitVec.ofNat 8 N)), .int .u8 (bv (BitVec.ofNat 8 S.size))] 5)) w1.heap.size 5 (.slice (some ⟨w1.heap.size, 0, none⟩) 3 3) L3 by
    rw [hL3]; exact Own.lit b8 w1 w1.heap.size 5 [BitVec.ofNat 8 (N / 256), BitVec.ofNat 8 N, BitVec.ofNat 8 S.size] (Nat.le_refl _) (by simp [maxLen]))
  have HL3l := Lib.hid (show L3.length = 3 by rw [hL3]; rfl)
  have hzw : w.heap.size < w1.heap.size := by omega
  clear hL3 hz0'
  have HRz := Lib.hid (show ∀ W : World, Rd b8 (W.alloc (.cells #[.int .u8 0, .int .u8 0, .int .u8 0, .int .u8 0] 5)) (W.heap.size + 1) (some ⟨W.heap.size, 0, none⟩) [0#8, 0#8, 0#8, 0#8] from fun W => Rd.new b8 W 5 [0#8, 0#8, 0#8, 0#8])
  have hNi : (N : Int) ≤ 8160 := by omega
  go_upto_region 6 with (first
    | (at_builtin; (refine Lib.wpList_append_own_string _ rfl (.tmp 39) (.tmp 40) 30 9 rfl w1.heap.size 5 i0 Tryd.underlying30 Tryd.underlying9 hi0 hz0 hz1 hz2 _ 3 (L3.map b8) rfl (by have h := HO0.out; unfold Own at h; rw [HL3l.out] at h; exact h) S rfl (by have := HZ.out; unfold maxLen; omega) (by have := HZ.out; omega) (by simp) ?_; intro v2 w2 ho2 hg2 hv2; have HO2 := Lib.hid (own_app_str hS HL3l.out ho2); have HB2 := Lib.hid (show Below w1.heap.size w1 w2 from ((Below.refl _ w1).alloc (Nat.le_refl _) _).grown hg2 (by simp) (fun k e => (HO0.out.lt k e).1)); have HS2 := Lib.hid HB2.out.size; obtain ⟨A2, c2, rfl, -, -, -, -⟩ := HO2.out.shape' (n := lab.length + 3) (by rw [List.length_append, HL3l.out, Nat.add_comm]); clear ho2 hv2 hg2))
    | (at_builtin; (refine wpList_append_rd rfl (.tmp 42) (.tmp 57) 30 rfl b8_one w1.heap.size 5 i0 _ 1 Tryd.underlying30 hi0 hz0 hz1 hz2 rfl _ _ rfl (HO2.out.alloc (.cells #[.int .u8 0, .int .u8 0, .int .u8 0, .int .u8 0] 5)) (w2.heap.size + 1) (some ⟨w2.heap.size, 0, none⟩) 4 4 [0#8, 0#8, 0#8, 0#8] rfl rfl (HRz.out w2) (by have := HL3l.out; simp [maxLen]; omega) (by have := HL3l.out; simp; omega) (by have := HS2.out; simp; omega) ?_; intro v3 w3 ho3 hg3 hbb3; obtain ⟨A3, c3, rfl, -, -, -, -⟩ := ho3.shape' (n := lab.length + 7) (by rw [List.length_append, List.length_append, HL3l.out]; simp; omega); have HO3 := Lib.hid ho3; have HB3 := Lib.hid (hbb3 w1.heap.size w1 (Nat.le_refl _) (HB2.out.alloc HS2.out _)); clear ho3 hg3 hbb3)))
  have HI3 := Lib.hid (show Own b8 w3 w1.heap.size 5 (.slice A3 (lab.length + 7) c3) (labI lab N) from HO3.out.cast (by rw [HL3.out, HZ.out]; rfl))
  have HA3 := Lib.hid (HA0.out.below HB3.out HA0.out.lt)
  have hs3 := HB3.out.size
  clear e0 e1 e2
  go_region_law (first
    | ((refine step_append_rd rfl (.tmp 60) (.tmp 61) 30 rfl b8_one w1.heap.size 5 i0 _ 1 Tryd.underlying30 hi0 hz0 hz1 hz2 rfl _ _ rfl HI3.out 0 none 0 0 [] rfl rfl (Rd.nil_ _ _ _ _) (by rw [labI_len]; simp [maxLen]; omega) (by rw [labI_len]; simp; omega) (by first | omega | (simp; omega)) ?_; intro v4 w4 ho4 hg4 hbb4; obtain ⟨A4, c4, rfl, -, -, -, -⟩ := ho4.shape' (n := lab.length + 7) (by rw [List.length_append, labI_len]; rfl); have HI4 := Lib.hid (ho4.cast (List.append_nil _)); have HB4 := Lib.hid (hbb4 w1.heap.size w1 (Nat.le_refl _) (by first | exact HB3.out.drew | exact HB3.out)); clear ho4 hg4 hbb4))
    | (go_simp; go_at_call 44; (refine (refExpand_own w4 w4.heap.size 32 32 w4.heap.size (lab.length + 7) c4 N _ _ sec (labI lab N) (((HA0.out.below HB4.out HA0.out.lt).rd 0).more (Nat.le_trans HA0.out.lt HB4.out.size)) (Nat.le_refl _) HS.out.symm HI4.out.rd (Nat.le_refl _) (labI_len _ _).symm (by omega) (by omega) hN).mono ?_; rintro e w5 ⟨A5, c5, rfl, hr5, hb5⟩; have HR5 := Lib.hid hr5; have HB5 := Lib.hid (HB4.out.trans (hb5.mono HB4.out.size)); clear hr5 hb5)))
  go_wp2_with fail
  go_ret2
  have hro := HR5.out.less (B' := w.heap.size) (by have := HB4.out.size; omega)
  first | exact ⟨A5, c5, rfl, hro, HB0.out.trans (HB5.out.mono (by omega))⟩ | exact ⟨A5, c5, ⟨rfl, rfl⟩, hro, HB0.out.trans (HB5.out.mono (by omega))⟩
end Go.Proofs.YtmncihhofppkdaaDoor

/- CONTRACTS: burrowref02.Derive, burrowref19.Of. -/
namespace Go.Proofs.YtmncihhofppkdaaDoor
open Go.RowKit
set_option linter.unusedVariables false
set_option linter.unusedSimpArgs false

/-- the first k of D in a row of 32 -/
def to32 (D : List (BitVec 8)) (k : Nat) : List (BitVec 8) := D.take k ++ List.replicate (32 - k) 0#8
theorem to32_len (D : List (BitVec 8)) (k : Nat) (h : 32 ≤ D.length) (hk : k ≤ 32) : (to32 D k).length = 32 := by unfold to32; rw [List.length_append, List.length_take, List.length_replicate]; omega
theorem to32_set (D : List (BitVec 8)) (k : Nat) (h : 32 ≤ D.length) (hk : k < 32) : (to32 D k).set k (D.getD k 0#8) = to32 D (k + 1) := by
  have hk' : k < D.length := by omega
  have e : D.take (k + 1) = D.take k ++ [D[k]] := by rw [List.take_add_one, List.getElem?_eq_getElem hk']; rfl
  unfold to32
  rw [show 32 - k = (32 - (k + 1)) + 1 by omega, List.replicate_succ, List.set_append_right _ _ (by rw [List.length_take]; omega), List.length_take, Nat.min_eq_left (by omega), Nat.sub_self, List.set_cons_zero, e, List.append_assoc, List.getD, List.getElem?_eq_getElem hk']
  rfl
theorem to32_all (D : List (BitVec 8)) : to32 D 32 = D.take 32 := by unfold to32; simp

set_option maxRecDepth 100000 in
set_option maxHeartbeats 2000000 in
theorem refDerive_any (w : World) (sec : List (BitVec 8)) (hsec : sec.length = 32) (S : ByteArray) (lab : List (BitVec 8)) (hS : StrOf S lab) (hl : lab.length ≤ 255) :
    Calls Tryd.prog 14 #[arrV b8 sec, .string S] w fun e w' => e = .returned (arrV b8 (derV sec lab)) ∧ Below w.heap.size w w' := by
  have HS := Lib.hid hsec
  obtain ⟨D, hD⟩ : ∃ D, D = derV sec lab := ⟨_, rfl⟩
  have HDl := Lib.hid (show D.length = 32 by rw [hD]; exact derV_len _ _)
  have HD := Lib.hid hD
  obtain ⟨w3, hw3⟩ : ∃ w3, w3 = ((w.alloc (.cells (sec.map b8).toArray 23)).alloc (.cells ((List.replicate 32 0#8).map b8).toArray 23)).alloc (.cells ((List.replicate 32 0#8).map b8).toArray 23) := ⟨_, rfl⟩
  have HA3 := Lib.hid (show Arr b8 w3 w.heap.size 23 sec by rw [hw3]; exact ((Arr.new b8 w 23 sec).alloc _).alloc _)
  have HZ3 := Lib.hid (show Arr b8 w3 (w.heap.size + 1) 23 (List.replicate 32 0#8) by
    rw [hw3]; have h := Arr.new b8 (w.alloc (.cells (sec.map b8).toArray 23)) 23 (List.replicate 32 0#8); rw [World.size_alloc] at h; exact h.alloc _)
  have HY3 := Lib.hid (show Arr b8 w3 (w.heap.size + 1 + 1) 23 (to32 D 0) by
    rw [hw3]; have h := Arr.new b8 ((w.alloc (.cells (sec.map b8).toArray 23)).alloc (.cells ((List.replicate 32 0#8).map b8).toArray 23)) 23 (List.replicate 32 0#8); rw [World.size_alloc, World.size_alloc] at h; exact h.cast (by unfold to32; simp))
  have HB3 := Lib.hid (show Below w.heap.size w w3 by rw [hw3]; exact (((Below.refl _ w).alloc (Nat.le_refl _) _).alloc (by simp) _).alloc (by simp; omega) _)
  have hz3 : w3.heap.size = w.heap.size + 1 + 1 + 1 := by rw [hw3]; simp
  have HW3 := Lib.hid hw3
  rw [← hD, arrV_mk, arrV_mk]
  clear hsec hD hw3
  go_enter Tryd.func14, Tryd.ntmps14
  go_upto_region 2 with fail
  have hw3 := HW3.out
  simp only [show ((List.replicate 32 0#8).map b8).toArray = #[Value.int .u8 0, Value.int .u8 0, Value.int .u8 0, Value.int .u8 0, Value.int .u8 0, Value.int .u8 0, Value.int .u8 0, Value.int .u8 0, Value.int .u8 0, Value.int .u8 0, Value.int .u8 0, Value.int .u8 0, Value.int .u8 0, Value.int .u8 0, Value.int .u8 0, Value.int .u8 0, Value.int .u8 0, Value.int .u8 0, Value.int .u8 0, Value.int .u8 0, Value.int .u8 0, Value.int .u8 0, Value.int .u8 0, Value.int .u8 0, Value.int .u8 0, Value.int .u8 0, Value.int .u8 0, Value.int .u8 0, Value.int .u8 0, Value.int .u8 0, Value.int .u8 0, Value.int .u8 0] from rfl] at hw3
  rw [← hw3]
  clear hw3
  have hlb := refLabel_any w3 sec HS.out S lab hS hl 32 (by omega)
  have eD : labV sec lab 32 = D := by rw [← derV_eq]; exact HD.out.symm
  rw [arrV_mk, eD, show (((32 : Nat) : Nat) : Int) = 32 from rfl] at hlb
  have HL := Lib.hid hlb
  have HZs := Lib.hid hz3
  have hzs : w.heap.size + 2 < w3.heap.size := by omega
  clear hlb eD hz3
  go_wp2_with (first | (refine wpList_load_arr rfl 23 (.tmp 2) rfl w.heap.size rfl _ sec HA3.out _ Tryd.underlying23 rfl (by rw [size32, HS.out]) ?_))
  refine HL.out.mono ?_
  rintro e w4 ⟨A4, c4, rfl, ho, hb⟩
  obtain ⟨g, cg, eg, hgb, hgl, -⟩ := ho.form' HDl.out (by omega)
  injection eg with eg1 eg2 eg3
  subst eg1
  have HO4 := Lib.hid ho
  have HZ4 := Lib.hid (HZ3.out.below hb (by omega))
  have HY4 := Lib.hid (HY3.out.below hb (by omega))
  have HB4 := Lib.hid (HB3.out.trans (hb.mono HB3.out.size))
  have hs4 := hb.size
  clear ho hb HL eg2 eg3
  go_wp2_with fail
  go_loopw [8] (fun v wr => ∃ k : Nat, k ≤ 32 ∧ v = .int .i64 k ∧ Arr b8 wr (w.heap.size + 1 + 1) 23 (to32 D k) ∧ Arr b8 wr (w.heap.size + 1) 23 (List.replicate 32 0#8) ∧ Own b8 wr w3.heap.size 5 (.slice (some ⟨g, 0, none⟩) 32 c4) D ∧ Below w.heap.size w wr) (fun v _ => 32 - (intOf v).toNat)
  case atStart => exact ⟨0, by omega, rfl, HY4.out, HZ4.out, HO4.out, HB4.out⟩
  case round =>
    clear HY4 HZ4 HO4 HB4
    obtain ⟨k, hk, rfl, ha, hzr, ho, hb⟩ := hrel
    have HA := Lib.hid ha
    have HZ := Lib.hid hzr
    have HO := Lib.hid ho
    have HB := Lib.hid hb
    clear ha hzr ho hb
    by_cases hlt : k < 32
    · have c1 := ((HO.out).at_ (k := k) (by rw [HDl.out]; exact hlt)).1
      have c2 := HA.out.cellD (k := k) (by rw [to32_len _ _ (by rw [HDl.out]; exact Nat.le_refl _) hk]; exact hlt) 0#8
      have f2 := HA.out.frozen k
      have hy : D[k]'(by rw [HDl.out]; exact hlt) = D.getD k 0#8 := by rw [List.getD, List.getElem?_eq_getElem (by rw [HDl.out]; exact hlt)]; rfl
      rw [hy] at c1
      have Hs := Lib.hid (to32_set D k (by rw [HDl.out]; exact Nat.le_refl _) hlt)
      generalize D.getD k 0#8 = y at c1 Hs
      generalize (to32 D k).getD k 0#8 = y0 at c2
      simp only [b8] at c1 c2
      have lk : (k : Int) < 32 := by omega
      clear hy
      go_wp2_with fail
      go_roundw
      case rel => exact ⟨k + 1, by omega, by go_num, (HA.out.set_ k y).cast Hs.out, HZ.out.far (by show w.heap.size + 1 ≠ w.heap.size + 1 + 1; omega) _, HO.out.kept (grownBy_set wr (w.heap.size + 1 + 1) k _) (.inr (fun e => by injection e with e; have e2 : g = w.heap.size + 1 + 1 := e; omega)), HB.out.setCell (by show w.heap.size ≤ w.heap.size + 1 + 1; omega) _⟩
      case measure => simp [intOf]; omega
    · obtain rfl : k = 32 := by omega
      rw [show (((32 : Nat)) : Int) = 32 from rfl]
      have HA' := Lib.hid (HA.out.cast (show to32 D 32 = D by rw [to32_all, List.take_of_length_le (by rw [HDl.out]; exact Nat.le_refl _)]))
      clear HA
      go_upto_region 7 with fail
      refine wp_region_lit ?_
      refine wpList_load_arr rfl 23 (.tmp 5) rfl (w.heap.size + 1 + 1) rfl _ D HA'.out _ Tryd.underlying23 rfl (by rw [size32, HDl.out]) ?_
      refine wpList_store_arr rfl 23 (.tmp 4) (.tmp 27) rfl (w.heap.size + 1) rfl D rfl _ _ HZ.out (by rw [HDl.out]; rfl) (by rw [size32, HDl.out]) b8_one' ?_
      intro w5 hx5 hg5
      go_wp2_with fail
      refine bodyPost_ret (v := .agg (D.map b8).toArray) (results_arr (g := w.heap.size + 1) rfl _ _ _ _ _ rfl hx5 Tryd.underlying23 rfl (by rw [size32, HDl.out])) rfl ?_
      exact ⟨rfl, HB.out.grown hg5 HB.out.size (fun k e => by cases e; omega)⟩
end Go.Proofs.YtmncihhofppkdaaDoor
