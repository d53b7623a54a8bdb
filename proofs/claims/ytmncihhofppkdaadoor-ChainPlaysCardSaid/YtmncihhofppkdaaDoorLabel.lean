/- CONTRACTS: kdf.info, kdf.Label, kdf.Derive (no context, a label that is a constant). -/
import Derived.Test.YtmncihhofppkdaaDoorExpand
import Derived.Test.YtmncihhofppkdaaDoorCat
import Derived.Test.YtmncihhofppkdaaDoorChainD
import Derived.Lib.ConvBytes
import Derived.Deep.RegionHeld3
import Derived.Deep.Cut
namespace Go.Proofs.YtmncihhofppkdaaDoor
open Go.RowKit
set_option linter.unusedVariables false
set_option linter.unusedSimpArgs false

/-- a string's bytes -/
def StrOf (S : ByteArray) (lab : List (BitVec 8)) : Prop := S.data.toList.map (fun b => BitVec.ofNat 8 b.toNat) = lab
theorem StrOf.size {S : ByteArray} {lab : List (BitVec 8)} (h : StrOf S lab) : S.size = lab.length := by unfold StrOf at h; rw [← h]; simp
theorem rd_bytesWorld {S : ByteArray} {lab : List (BitVec 8)} (h : StrOf S lab) (w : World) : Rd b8 (Lib.bytesWorld w 5 S) (w.heap.size + 1) (some ⟨w.heap.size, 0, none⟩) lab := by
  intro hne
  refine ⟨w.heap.size, 0, rfl, by omega, fun j u hu => ?_⟩
  have hz := h.size
  unfold StrOf at h
  rw [← h, List.getElem?_map] at hu
  obtain ⟨x, hx, rfl⟩ := Option.map_eq_some_iff.1 hu
  have hj : j < S.size := by have := (List.getElem?_eq_some_iff.1 hx).1; simpa using this
  rw [Nat.zero_add, Lib.bytesWorld_cell w _ S j hj, List.getD, hx]
  show some (Value.int .u8 (x.toNat : Int)) = some (b8 (BitVec.ofNat 8 x.toNat))
  unfold b8 bv
  rw [BitVec.toNat_ofNat, Nat.mod_eq_of_lt x.toNat_lt]
theorem below_bytesWorld (S : ByteArray) (w : World) : Below w.heap.size w (Lib.bytesWorld w 5 S) :=
  ⟨rfl, rfl, rfl, by rw [Lib.bytesWorld_size]; omega, fun k hk => Lib.bytesWorld_at_old w _ S k hk⟩
theorem wrap8L (n : Nat) : IntKind.u8.wrap (n : Int) = bv (BitVec.ofNat 8 n) := by rw [wrap_u8v]; unfold bv; rw [BitVec.toNat_ofNat]; omega

set_option maxRecDepth 100000 in
theorem cat_info (w : World) (S : ByteArray) (lab : List (BitVec 8)) (hS : StrOf S lab) (hl : lab.length ≤ 255) (N cap : Nat) :
    Calls Tryd.prog 63 #[.slice (some ⟨w.heap.size + 1 + 1 + 1, 0, none⟩) 4 4]
      (((Lib.bytesWorld (w.alloc (.cells #[.int .u8 (bv (BitVec.ofNat 8 (N / 256))), .int .u8 (bv (BitVec.ofNat 8 N)), .int .u8 (bv (BitVec.ofNat 8 S.size))] 5)) 5 S).alloc
        (.cells #[.int .u8 0, .int .u8 0, .int .u8 0, .int .u8 0] 5)).alloc
        (.cells #[.slice (some ⟨w.heap.size, 0, none⟩) 3 3, .slice (some ⟨w.heap.size + 1, 0, none⟩) S.size cap, .slice (some ⟨w.heap.size + 1 + 1, 0, none⟩) 4 4, .slice none 0 0] 30))
      fun e w' => ∃ v, e = .returned v ∧ Own b8 w' w.heap.size 5 v (labI lab N) ∧ Below w.heap.size w w' := by
  have hz := hS.size
  have r1 := Rd.new b8 w 5 [BitVec.ofNat 8 (N / 256), BitVec.ofNat 8 N, BitVec.ofNat 8 S.size]
  have b1 := (Below.refl w.heap.size w).alloc (Nat.le_refl _) (.cells #[.int .u8 (bv (BitVec.ofNat 8 (N / 256))), .int .u8 (bv (BitVec.ofNat 8 N)), .int .u8 (bv (BitVec.ofNat 8 S.size))] 5)
  have z1 : (w.alloc (.cells #[.int .u8 (bv (BitVec.ofNat 8 (N / 256))), .int .u8 (bv (BitVec.ofNat 8 N)), .int .u8 (bv (BitVec.ofNat 8 S.size))] 5)).heap.size = w.heap.size + 1 := by simp
  change Rd b8 (w.alloc (.cells #[.int .u8 (bv (BitVec.ofNat 8 (N / 256))), .int .u8 (bv (BitVec.ofNat 8 N)), .int .u8 (bv (BitVec.ofNat 8 S.size))] 5)) _ _ _ at r1
  generalize w.alloc (.cells #[.int .u8 (bv (BitVec.ofNat 8 (N / 256))), .int .u8 (bv (BitVec.ofNat 8 N)), .int .u8 (bv (BitVec.ofNat 8 S.size))] 5) = w1 at r1 b1 z1 ⊢
  have r2 := rd_bytesWorld hS w1
  have b2 := below_bytesWorld S w1
  have z2 := Lib.bytesWorld_size w1 5 S
  generalize Lib.bytesWorld w1 5 S = w2 at r2 b2 z2 ⊢
  have r3 := Rd.new b8 w2 5 [0#8, 0#8, 0#8, 0#8]
  have b3 := (Below.refl w2.heap.size w2).alloc (Nat.le_refl _) (.cells #[.int .u8 0, .int .u8 0, .int .u8 0, .int .u8 0] 5)
  have z3 : (w2.alloc (.cells #[.int .u8 0, .int .u8 0, .int .u8 0, .int .u8 0] 5)).heap.size = w2.heap.size + 1 := by simp
  change Rd b8 (w2.alloc (.cells #[.int .u8 0, .int .u8 0, .int .u8 0, .int .u8 0] 5)) _ _ _ at r3
  generalize w2.alloc (.cells #[.int .u8 0, .int .u8 0, .int .u8 0, .int .u8 0] 5) = w3 at r3 b3 z3 ⊢
  rw [z1] at r2
  rw [show w2.heap.size = w.heap.size + 1 + 1 by omega] at r3
  have q1 : Rd b8 w3 (w.heap.size + 1) (some ⟨w.heap.size, 0, none⟩) _ := (r1.below (b2.mono (by omega))).below (b3.mono (by omega))
  have q2 : Rd b8 w3 (w.heap.size + 1 + 1) (some ⟨w.heap.size + 1, 0, none⟩) lab := r2.below (b3.mono (by omega))
  have hp := pts_new w3 (w.heap.size + 1 + 1 + 1) [((some ⟨w.heap.size, 0, none⟩, 3, 3), [BitVec.ofNat 8 (N / 256), BitVec.ofNat 8 N, BitVec.ofNat 8 S.size]), ((some ⟨w.heap.size + 1, 0, none⟩, S.size, cap), lab), ((some ⟨w.heap.size + 1 + 1, 0, none⟩, 4, 4), [0#8, 0#8, 0#8, 0#8]), ((none, 0, 0), [])]
    (by
      intro u hu
      simp only [List.mem_cons, List.not_mem_nil, or_false] at hu
      rcases hu with rfl | rfl | rfl | rfl
      · exact q1.more (by omega)
      · exact q2.more (by omega)
      · exact r3
      · exact Rd.nil_ _ _ _ _) (by
      intro u hu
      simp only [List.mem_cons, List.not_mem_nil, or_false] at hu
      rcases hu with rfl | rfl | rfl | rfl
      · rfl
      · exact hz
      · rfl
      · rfl) (by omega)
  rw [show w3.heap.size = w.heap.size + 1 + 1 + 1 by omega] at hp
  refine (concat_any _ _ _ 0 4 4 _ hp (by simp; omega) rfl (by omega) (by simp; omega)).mono ?_
  rintro e w' ⟨v, rfl, ho, hb⟩
  refine ⟨v, rfl, ?_, ?_⟩
  · have h2 := ho.less (B' := w.heap.size) (by simp; omega)
    have e : labI lab N = ([((some ⟨w.heap.size, 0, none⟩, 3, 3), [BitVec.ofNat 8 (N / 256), BitVec.ofNat 8 N, BitVec.ofNat 8 S.size]), ((some ⟨w.heap.size + 1, 0, none⟩, S.size, cap), lab), ((some ⟨w.heap.size + 1 + 1, 0, none⟩, 4, 4), [0#8, 0#8, 0#8, 0#8]), ((none, 0, 0), [])] : List Pt).flatMap fun p => p.2 := by
      simp [labI, hz]
    rw [e]; exact h2
  · exact (((b1.trans (b2.mono (by omega))).trans (b3.mono (by omega))).alloc (by omega) _).trans (hb.mono (by simp; omega))
set_option maxRecDepth 100000 in
set_option maxHeartbeats 1000000 in
theorem info_any (w : World) (S : ByteArray) (lab : List (BitVec 8)) (hS : StrOf S lab) (hl : lab.length ≤ 255) (N : Nat) (hN : N ≤ 8160) :
    Calls Tryd.prog 58 #[.string S, .slice none 0 0, .int .i64 (N : Int)] w fun e w' => ∃ v, e = .returned v ∧ Own b8 w' w.heap.size 5 v (labI lab N) ∧ Below w.heap.size w w' := by
  have e0 := wrap8L N
  have e1 : IntKind.u8.wrap ((N : Int) / 256) = bv (BitVec.ofNat 8 (N / 256)) := by rw [← wrap8L]; congr 1
  have e2 := wrap8L S.size
  have hcv := fun w => Lib.run_convert_string_bytes (P := Tryd.prog) w 9 30 5 S Tryd.underlying9 Tryd.underlying30 Tryd.underlying5
  have hbs := fun w => Lib.bytesWorld_size w 5 S
  have hNi : (N : Int) ≤ 8160 := by omega
  go_enter Tryd.func58, Tryd.ntmps58
  go_wp2_with fail
  refine (cat_info w S lab hS hl N _).mono ?_
  rintro e w' ⟨v, rfl, ho, hb⟩
  go_wp2_with fail
  go_ret
  exact ⟨v, rfl, ho, hb⟩

set_option maxRecDepth 100000 in
set_option maxHeartbeats 2000000 in
theorem label_any (w : World) (sec : List (BitVec 8)) (hsec : sec.length = 32) (S : ByteArray) (lab : List (BitVec 8)) (hS : StrOf S lab) (hl : lab.length ≤ 255) (N : Nat) (hN : N ≤ 8160) :
    Calls Tryd.prog 51 #[arrV b8 sec, .string S, .slice none 0 0, .int .i64 (N : Int)] w fun e w' => ∃ g, e = .returned (.tuple #[.slice (some ⟨g, 0, none⟩) N N, .nilIface]) ∧
      Own b8 w' w.heap.size 5 (.slice (some ⟨g, 0, none⟩) N N) (labV sec lab N) ∧ Below w.heap.size w w' := by
  have hz := hS.size
  have h1 : ¬ ((S.size : Int) > 255) := by omega
  have h2 : ¬ ((N : Int) < 0) := by omega
  have h3 : ¬ ((N : Int) > 8160) := by omega
  have HS := Lib.hid hsec
  have HA0 := Lib.hid (Arr.new b8 w 23 sec)
  have HB0 := Lib.hid ((Below.refl w.heap.size w).alloc (Nat.le_refl _) (.cells (sec.map b8).toArray 23))
  have hz0 : (w.alloc (.cells (sec.map b8).toArray 23)).heap.size = w.heap.size + 1 := by simp
  have HI := Lib.hid (fun w' : World => info_any w' S lab hS hl N hN)
  rw [arrV_mk]
  clear hsec hz
  go_enter Tryd.func51, Tryd.ntmps51
  go_upto_region 3 with fail
  generalize w.alloc (.cells (sec.map b8).toArray 23) = w1 at HA0 HB0 hz0 ⊢
  go_region_law (first
    | (go_simp; go_at_call 58; refine (HI.out _).mono ?_; rintro e w2 ⟨v2, rfl, ho2, hb2⟩; obtain ⟨A2, c2, rfl, hr2, -, -, -⟩ := ho2.shape' (n := lab.length + 7) (labI_len _ _); have hbb2 : Below w1.heap.size w1 w2 := (below_step (by (repeat' (first | assumption | exact Below.refl _ _ | refine Below.drew ?_ | refine Below.alloc ?_ ?_ _ | omega | (simp; done) | (simp; omega)))) hb2); have HB2 := Lib.hid hbb2; have HR2 := Lib.hid hr2; have HA2 := Lib.hid (HA0.out.below hbb2 HA0.out.lt); clear ho2 hb2 hbb2 hr2)
    | (go_simp; go_at_call 57; refine (expand_any w2 w2.heap.size 32 32 w2.heap.size (lab.length + 7) c2 N _ _ sec (labI lab N) ((HA2.out.rd 0).more HA2.out.lt) (Nat.le_refl _) HS.out.symm HR2.out (Nat.le_refl _) (labI_len _ _).symm (by omega) (by omega) hN).mono ?_; rintro e w3 ⟨g, rfl, ho3, hb3⟩; have HO3 := Lib.hid ho3; have HB3 := Lib.hid (HB2.out.trans (hb3.mono HB2.out.size)); clear ho3 hb3))
  go_wp2_with fail
  go_ret2
  exact ⟨g, rfl, HO3.out.less (by have := HB2.out.size; omega), HB0.out.trans (HB3.out.mono (by omega))⟩

set_option maxRecDepth 100000 in
set_option maxHeartbeats 2000000 in
theorem derive_any (w : World) (sec : List (BitVec 8)) (hsec : sec.length = 32) (S : ByteArray) (lab : List (BitVec 8)) (hS : StrOf S lab) (hl : lab.length ≤ 255) :
    Calls Tryd.prog 41 #[arrV b8 sec, .string S] w fun e w' => e = .returned (arrV b8 (derV sec lab)) ∧ Below w.heap.size w w' := by
  have HS := Lib.hid hsec
  obtain ⟨D, hD⟩ : ∃ D, D = derV sec lab := ⟨_, rfl⟩
  have HDl := Lib.hid (show D.length = 32 by rw [hD]; exact derV_len _ _)
  have HD := Lib.hid hD
  obtain ⟨w2, hw2⟩ : ∃ w2, w2 = (w.alloc (.cells (sec.map b8).toArray 23)).alloc (.cells ((List.replicate 32 0#8).map b8).toArray 23) := ⟨_, rfl⟩
  have HA2 := Lib.hid (show Arr b8 w2 w.heap.size 23 sec by rw [hw2]; exact (Arr.new b8 w 23 sec).alloc _)
  have HZ2 := Lib.hid (show Arr b8 w2 (w.heap.size + 1) 23 (List.replicate 32 0#8) by
    rw [hw2]; have h := Arr.new b8 (w.alloc (.cells (sec.map b8).toArray 23)) 23 (List.replicate 32 0#8); rw [World.size_alloc] at h; exact h)
  have HB2 := Lib.hid (show Below w.heap.size w w2 by rw [hw2]; exact ((Below.refl _ w).alloc (Nat.le_refl _) _).alloc (by simp) _)
  have hz2 : w2.heap.size = w.heap.size + 2 := by rw [hw2]; simp
  have HW2 := Lib.hid hw2
  rw [← hD, arrV_mk, arrV_mk]
  clear hsec hD hw2
  go_enter Tryd.func41, Tryd.ntmps41
  go_upto_region 1 with fail
  have hw2 := HW2.out
  simp only [show ((List.replicate 32 0#8).map b8).toArray = #[Value.int .u8 0, Value.int .u8 0, Value.int .u8 0, Value.int .u8 0, Value.int .u8 0, Value.int .u8 0, Value.int .u8 0, Value.int .u8 0, Value.int .u8 0, Value.int .u8 0, Value.int .u8 0, Value.int .u8 0, Value.int .u8 0, Value.int .u8 0, Value.int .u8 0, Value.int .u8 0, Value.int .u8 0, Value.int .u8 0, Value.int .u8 0, Value.int .u8 0, Value.int .u8 0, Value.int .u8 0, Value.int .u8 0, Value.int .u8 0, Value.int .u8 0, Value.int .u8 0, Value.int .u8 0, Value.int .u8 0, Value.int .u8 0, Value.int .u8 0, Value.int .u8 0, Value.int .u8 0] from rfl] at hw2
  rw [← hw2]
  clear hw2
  have hlb := label_any w2 sec HS.out S lab hS hl 32 (by omega)
  have eD : labV sec lab 32 = D := by rw [← derV_eq]; exact HD.out.symm
  rw [arrV_mk, eD, show (((32 : Nat) : Nat) : Int) = 32 from rfl] at hlb
  have HL := Lib.hid hlb
  clear hlb eD
  go_wp2_with (first | (refine wpList_load_arr rfl 23 (.tmp 2) rfl w.heap.size rfl _ sec HA2.out _ Tryd.underlying23 rfl (by rw [size32, HS.out]) ?_))
  refine HL.out.mono ?_
  rintro e w3 ⟨g, rfl, ho, hb⟩
  have HO3 := Lib.hid ho
  have HZ3 := Lib.hid (HZ2.out.below hb (by omega))
  have hz3 := hb.size
  have HB3 := Lib.hid (HB2.out.trans (hb.mono (by omega)))
  clear ho hb HZ2 HB2
  have hspl : splice ((List.replicate 32 0#8).map b8) 0 (D.map b8) = D.map b8 := by
    unfold splice
    rw [List.length_map, HDl.out]
    simp
  go_upto_region 3 with (refine wpList_copy_splice (o := ⟨some 15, _, _, _, _, _⟩) rfl (.tmp 13) (.tmp 14) 30 30 rfl 5 Tryd.underlying30 sizeU8 (some ⟨w.heap.size + 1, 0, none⟩) (some ⟨g, 0, none⟩) 32 32 32 32 rfl rfl (w.heap.size + 1) 0 ((List.replicate 32 0#8).map b8) 23 HZ3.out (D.map b8) (by rw [List.length_map, HDl.out]; rfl) (fun hp => ⟨rfl, _, rfl, HO3.out.rd.cells rfl⟩) (by rw [List.length_map, List.length_map, List.length_replicate, HDl.out]; omega) (fun v hv => by obtain ⟨x, -, rfl⟩ := List.mem_map.1 hv; exact b8_one x) w.heap.size w HB3.out (by omega) ?_; intro w4 hx4 hb4; have HX4 := Lib.hid (show Arr b8 w4 (w.heap.size + 1) 23 D from by have := hx4.out; rw [hspl] at this; exact this); have HB4 := Lib.hid hb4; clear hx4 hb4)
  refine wp_region_lit ?_
  refine wpList_load_arr rfl 23 (.tmp 4) rfl (w.heap.size + 1) rfl _ D HX4.out _ Tryd.underlying23 rfl (by rw [size32, HDl.out]) ?_
  refine wpList_store_arr rfl 23 (.tmp 4) (.tmp 16) rfl (w.heap.size + 1) rfl D rfl _ _ HX4.out rfl (by rw [size32, HDl.out]) b8_one' ?_
  intro w5 hx5 hg5
  go_wp2_with fail
  refine bodyPost_ret (v := .agg (D.map b8).toArray) (results_arr (g := w.heap.size + 1) rfl _ _ _ _ _ rfl hx5 Tryd.underlying23 rfl (by rw [size32, HDl.out])) rfl ?_
  exact ⟨rfl, HB4.out.grown hg5 HB4.out.size (fun k e => by cases e; omega)⟩
end Go.Proofs.YtmncihhofppkdaaDoor