/- CONTRACT: burrowref19.Of. -/
import Derived.Test.YtmncihhofppkdaaDoorRefDs
import Derived.Test.YtmncihhofppkdaaDoorOnceP
import Derived.Test.YtmncihhofppkdaaDoorTakeP
import Derived.Test.YtmncihhofppkdaaDoorNewG
import Derived.Test.YtmncihhofppkdaaDoorRefLf
import Derived.Test.YtmncihhofppkdaaDoorChainsC
namespace Go.Proofs.YtmncihhofppkdaaDoor
open Go.RowKit
set_option linter.unusedVariables false
set_option linter.unusedSimpArgs false

set_option maxRecDepth 100000 in
theorem built_ronce (no : Int) (key : List (BitVec 8)) (h : key.length = 32) (A : Option Addr) (n c : Nat) :
    Tryd.prog.built 38 [(0, .int .i64 no), (1, .agg (key.map b8).toArray), (2, .slice A n c)] = some (onceC no key (.slice A n c)).toArray := by
  obtain ⟨x0, x1, x2, x3, x4, x5, x6, x7, x8, x9, x10, x11, x12, x13, x14, x15, x16, x17, x18, x19, x20, x21, x22, x23, x24, x25, x26, x27, x28, x29, x30, x31, rfl⟩ := list_of32 h
  kernel_rfl
theorem sizeROnce : (Tryd.prog.info? 38).map (·.size) = some 34 := by kernel_rfl

set_option maxRecDepth 100000 in
set_option maxHeartbeats 4000000 in
theorem refOf_anyG (w : World) (link : List (BitVec 8)) (hl : link.length = 32) (n : Int) :
    Calls Tryd.prog 13 #[arrV b8 link, .int .i64 n] w fun e w' => ∃ g c, e = .returned (.agg (onceC n ((labV link lKey 44).take 32) (.slice (some ⟨g, 32, none⟩) 12 c)).toArray) ∧ w.heap.size ≤ g ∧ (∃ cs, w'.heap[g]? = some (.cells cs 5 (0, 0))) ∧
      Rd b8 w' w'.heap.size (some ⟨g, 32, none⟩) ((labV link lKey 44).drop 32) ∧ Below w.heap.size w w' := by
  have HS := Lib.hid hl
  obtain ⟨V, hV⟩ : ∃ V, V = labV link lKey 44 := ⟨_, rfl⟩
  have HVl := Lib.hid (show V.length = 44 by rw [hV]; exact labV_len _ _ _ (by omega))
  have HV := Lib.hid hV
  obtain ⟨Kk, hKk⟩ : ∃ Kk, Kk = V.take 32 := ⟨_, rfl⟩
  have HKl := Lib.hid (show Kk.length = 32 by rw [hKk, List.length_take, HVl.out]; rfl)
  have HKe := Lib.hid hKk
  obtain ⟨w2, hw2⟩ : ∃ w2, w2 = (w.alloc (.cells (link.map b8).toArray 23)).alloc (.cells zeroOnce.toArray 38) := ⟨_, rfl⟩
  have HA2 := Lib.hid (show Arr b8 w2 w.heap.size 23 link by rw [hw2]; exact (Arr.new b8 w 23 link).alloc _)
  have HZ2 := Lib.hid (show Blk w2 (w.heap.size + 1) 38 zeroOnce by rw [hw2]; exact Blk.at_size _ _ (by simp))
  have HB2 := Lib.hid (show Below w.heap.size w w2 by rw [hw2]; exact ((Below.refl _ w).alloc (Nat.le_refl _) _).alloc (by simp) _)
  have hzw : w2.heap.size = w.heap.size + 2 := by rw [hw2]; simp
  have hz2 : w.heap.size + 1 < w2.heap.size := by omega
  have HW2 := Lib.hid hw2
  rw [← hV, ← hKk, arrV_mk]
  clear hl hV hw2 hKk hzw
  go_enter Tryd.func13, Tryd.ntmps13
  go_upto_region 1 with fail
  have hw2 := HW2.out
  simp only [show zeroOnce.toArray = #[Value.int .i64 0, Value.int .u8 0, Value.int .u8 0, Value.int .u8 0, Value.int .u8 0, Value.int .u8 0, Value.int .u8 0, Value.int .u8 0, Value.int .u8 0, Value.int .u8 0, Value.int .u8 0, Value.int .u8 0, Value.int .u8 0, Value.int .u8 0, Value.int .u8 0, Value.int .u8 0, Value.int .u8 0, Value.int .u8 0, Value.int .u8 0, Value.int .u8 0, Value.int .u8 0, Value.int .u8 0, Value.int .u8 0, Value.int .u8 0, Value.int .u8 0, Value.int .u8 0, Value.int .u8 0, Value.int .u8 0, Value.int .u8 0, Value.int .u8 0, Value.int .u8 0, Value.int .u8 0, Value.int .u8 0, Value.slice none 0 0] from rfl] at hw2
  rw [← hw2]
  clear hw2
  have hlb := refLabel_any w2 link HS.out ⟨#[107, 101, 121]⟩ lKey strKey (by decide) 44 (by omega)
  rw [arrV_mk, ← HV.out, show (((44 : Nat) : Nat) : Int) = 44 from rfl] at hlb
  have HL := Lib.hid hlb
  clear hlb
  go_wp2_with (first | (refine wpList_load_arr rfl 23 (.tmp 2) rfl w.heap.size rfl _ link HA2.out _ Tryd.underlying23 rfl (by rw [size32, HS.out]) ?_))
  refine HL.out.mono ?_
  rintro e w4 ⟨A4, c4, rfl, ho, hb⟩
  obtain ⟨g, cg, eg, hgb, hgl, hc44⟩ := ho.form' HVl.out (by omega)
  injection eg with eg1 eg2 eg3
  subst eg1
  subst eg3
  have HZ4 := Lib.hid (HZ2.out.below hb (by omega))
  have HB4 := Lib.hid (HB2.out.trans (hb.mono HB2.out.size))
  have hs4 := hb.size
  obtain ⟨w5, hw5⟩ : ∃ w5, w5 = w4.alloc (.cells ((List.replicate 32 0#8).map b8).toArray 29) := ⟨_, rfl⟩
  have HY5 := Lib.hid (show Arr b8 w5 w4.heap.size 29 (to32 V 0) by rw [hw5]; exact (Arr.new b8 w4 29 (List.replicate 32 0#8)).cast (by unfold to32; simp))
  have HZ5 := Lib.hid (show Blk w5 (w.heap.size + 1) 38 zeroOnce by rw [hw5]; exact HZ4.out.alloc _)
  have HO5 := Lib.hid (show Own b8 w5 w2.heap.size 5 (.slice (some ⟨g, 0, none⟩) 44 c4) V by rw [hw5]; exact ho.alloc _)
  have HB5 := Lib.hid (show Below w.heap.size w w5 by rw [hw5]; exact HB4.out.alloc HB4.out.size _)
  have HW5 := Lib.hid hw5
  clear ho hb HL hw5 eg2 HZ2 HA2
  go_upto_region 3 with fail
  have hw5 := HW5.out
  simp only [show ((List.replicate 32 0#8).map b8).toArray = #[Value.int .u8 0, Value.int .u8 0, Value.int .u8 0, Value.int .u8 0, Value.int .u8 0, Value.int .u8 0, Value.int .u8 0, Value.int .u8 0, Value.int .u8 0, Value.int .u8 0, Value.int .u8 0, Value.int .u8 0, Value.int .u8 0, Value.int .u8 0, Value.int .u8 0, Value.int .u8 0, Value.int .u8 0, Value.int .u8 0, Value.int .u8 0, Value.int .u8 0, Value.int .u8 0, Value.int .u8 0, Value.int .u8 0, Value.int .u8 0, Value.int .u8 0, Value.int .u8 0, Value.int .u8 0, Value.int .u8 0, Value.int .u8 0, Value.int .u8 0, Value.int .u8 0, Value.int .u8 0] from rfl] at hw5
  rw [← hw5]
  clear hw5
  go_wp2_with fail
  go_loopw [8] (fun v wr => ∃ k : Nat, k ≤ 32 ∧ v = .int .i64 k ∧ Arr b8 wr w4.heap.size 29 (to32 V k) ∧ Blk wr (w.heap.size + 1) 38 zeroOnce ∧ Own b8 wr w2.heap.size 5 (.slice (some ⟨g, 0, none⟩) 44 c4) V ∧ Below w.heap.size w wr) (fun v _ => 32 - (intOf v).toNat)
  case atStart => exact ⟨0, by omega, rfl, HY5.out, HZ5.out, HO5.out, HB5.out⟩
  case round =>
    clear HY5 HZ5 HO5 HB5
    obtain ⟨k, hk, rfl, ha, hzr, ho, hb⟩ := hrel
    have HA := Lib.hid ha
    have HZ := Lib.hid hzr
    have HO := Lib.hid ho
    have HB := Lib.hid hb
    clear ha hzr ho hb
    by_cases hlt : k < 32
    · have c1 := ((HO.out).at_ (k := k) (by rw [HVl.out]; omega)).1
      have c2 := HA.out.cellD (k := k) (by rw [to32_len _ _ (by rw [HVl.out]; omega) hk]; exact hlt) 0#8
      have f2 := HA.out.frozen k
      have hy : V[k]'(by rw [HVl.out]; omega) = V.getD k 0#8 := by rw [List.getD, List.getElem?_eq_getElem (by rw [HVl.out]; omega)]; rfl
      rw [hy] at c1
      have Hs := Lib.hid (to32_set V k (by rw [HVl.out]; omega) hlt)
      generalize V.getD k 0#8 = y at c1 Hs
      generalize (to32 V k).getD k 0#8 = y0 at c2
      simp only [b8] at c1 c2
      have lk : (k : Int) < 32 := by omega
      have lk4 : (k : Int) < 44 := by omega
      clear hy
      go_wp2_with fail
      go_roundw
      case rel => exact ⟨k + 1, by omega, by go_num, (HA.out.set_ k y).cast Hs.out, HZ.out.far (by show w.heap.size + 1 ≠ w4.heap.size; omega) _, HO.out.kept (grownBy_set wr w4.heap.size k _) (.inr (fun e => by injection e with e; have e2 : g = w4.heap.size := e; omega)), HB.out.setCell (by show w.heap.size ≤ w4.heap.size; omega) _⟩
      case measure => simp [intOf]; omega
    · obtain rfl : k = 32 := by omega
      rw [show (((32 : Nat)) : Int) = 32 from rfl]
      have HA' := Lib.hid (HA.out.cast (show to32 V 32 = Kk by rw [to32_all]; exact HKe.out.symm))
      clear HA
      have HA := HA'
      clear HA'
      have HKeep := Lib.hid (show ∀ W' : World, Arr b8 W' w4.heap.size 29 Kk → W'.rangeAt w4.heap.size 0 (Kk.map b8) from fun W' ha => ha.whole)
      have hk3 := HKeep.out _ HA.out.drew
      have hu := Tryd.underlying29
      have hi32 : (Tryd.prog.info? 29).map (·.size) = some (Kk.map b8).length := by rw [List.length_map, HKl.out]; exact sizeKey
      have hci : (44 : Int) ≤ (c4 : Int) := by omega
      go_upto_region 7 with fail
      refine wp_region_noPanic ?_
      refine wp_region_held_drew (S := fun w' => w'.rangeAt w4.heap.size 0 (Kk.map b8)) (by kernel_rfl) hk3 (fun hS => ?_)
      refine wpAnyH_take (i := 0) (oi := { dst := some 24, op := _, type := _, pos := _, after := _, guard := _ }) (v := .int .i64 n) rfl (by kernel_rfl) (by kernel_rfl) (by kernel_rfl) (fun _ _ _ h => h) (Or.inl ⟨by rfl, ?_⟩) hS ?_
      · intro w' hw'
        go_simp
      try simp only [Act.put, List.setIfInBounds_toArray, List.set_cons_zero, List.set_cons_succ]
      refine wpAnyH_take (i := 1) (oi := { dst := some 25, op := _, type := _, pos := _, after := _, guard := _ }) (v := .agg (Kk.map b8).toArray) rfl (by kernel_rfl) (by kernel_rfl) (by kernel_rfl) (fun _ _ _ h => h) (yieldsIf_load_mid (by rfl) 29 (.tmp 7) rfl w4.heap.size 0 rfl (Kk.map b8) _ (fun _ h => h) hu rfl hi32) hS ?_
      try simp only [Act.put, List.setIfInBounds_toArray, List.set_cons_zero, List.set_cons_succ]
      refine wpAnyH_take (i := 2) (oi := { dst := some 26, op := _, type := _, pos := _, after := _, guard := _ }) (v := .slice (some ⟨g, 0, none⟩) 44 c4) rfl (by kernel_rfl) (by kernel_rfl) (by kernel_rfl) (fun _ _ _ h => h) (Or.inl ⟨by rfl, ?_⟩) hS ?_
      · intro w' hw'
        go_simp
      try simp only [Act.put, List.setIfInBounds_toArray, List.set_cons_zero, List.set_cons_succ]
      refine wpAnyH_take (i := 3) (oi := { dst := some 27, op := _, type := _, pos := _, after := _, guard := _ }) (v := .slice (some ⟨g, 32, none⟩) 12 (c4 - 32)) rfl (by kernel_rfl) (by kernel_rfl) (by kernel_rfl) (fun _ _ _ h => h) (Or.inl ⟨by rfl, ?_⟩) hS ?_
      · intro w' hw'
        go_simp
        all_goals first | omega | (intro h; omega)
      try simp only [Act.put, List.setIfInBounds_toArray, List.set_cons_zero, List.set_cons_succ]
      refine wpAnyH_take (i := 4) (oi := { dst := some 28, op := _, type := _, pos := _, after := _, guard := _ }) (v := .agg (onceC n Kk (.slice (some ⟨g, 32, none⟩) 12 (c4 - 32))).toArray) rfl (by kernel_rfl) (by kernel_rfl) (by kernel_rfl) (fun _ _ _ h => h) (Or.inl ⟨by rfl, fun w' _ => run_buildE rfl _ rfl (built_ronce n Kk HKl.out _ _ _) w'⟩) hS ?_
      try simp only [Act.put, List.setIfInBounds_toArray, List.set_cons_zero, List.set_cons_succ]
      refine wpAnyH_ready (rs := [5]) (by kernel_rfl) (by simp) (AllReadyH.cons (o := { dst := none, op := _, type := _, pos := _, after := _, guard := _ }) rfl (fun K' hK => ?_) AllReadyH.nil)
      rw [if_pos (by rfl)]
      refine wp_store_piece 38 (.tmp 4) (.tmp 28) rfl (w.heap.size + 1) 0 rfl (onceC n Kk (.slice (some ⟨g, 32, none⟩) 12 (c4 - 32))) rfl _ _ [] zeroOnce [] HZ.out.drew (by simp) rfl (by rw [onceC_len _ _ _ HKl.out]; rfl) (by rw [sizeROnce, onceC_len _ _ _ HKl.out]) (onceC_one _ _ _ _ _) ?_
      intro w6 hx6 hg6
      have HX6 := Lib.hid (show Blk w6 (w.heap.size + 1) 38 (onceC n Kk (.slice (some ⟨g, 32, none⟩) 12 (c4 - 32))) from hx6.cast (by simp))
      have HG6 := Lib.hid hg6
      have HA6 := Lib.hid (HA.out.drew.grown hg6 (fun e => by injection e with e; omega))
      have HO6 := Lib.hid (HO.out.drew.kept hg6 (.inr (fun e => by injection e with e; have e2 : g = w.heap.size + 1 := e; omega)))
      clear hx6 hg6
      refine hK.out _ _ (HKeep.out _ HA6.out) (fun hS => ?_)
      clear hK K'
      try simp only [Act.put, List.setIfInBounds_toArray, List.set_cons_zero, List.set_cons_succ]
      refine wpAnyH_done (by kernel_rfl) ?_ _
      refine NoPanic.normal ?_
      go_wp2_with fail
      refine bodyPost_ret (v := .agg (onceC n Kk (.slice (some ⟨g, 32, none⟩) 12 (c4 - 32))).toArray) (results_blk (g := w.heap.size + 1) rfl _ _ _ _ _ rfl HX6.out Tryd.underlying38 rfl (by rw [sizeROnce, onceC_len _ _ _ HKl.out])) rfl ?_
      have hty : ∃ cs, w6.heap[g]? = some (.cells cs 5 (0, 0)) := by
        rcases HO6.out.2 with ⟨e, -⟩ | ⟨g', cap', cur, e, -, hg', -⟩
        · cases e
        · injection e with e1 e2 e3
          injection e1 with e1
          injection e1 with e1
          subst e1
          exact ⟨cur, hg'⟩
      exact ⟨g, _, rfl, by omega, hty, HO6.out.rd.drop 32, HB.out.drew.grown HG6.out HB.out.size (fun k e => by cases e; omega)⟩
theorem refOf_any (w : World) (link : List (BitVec 8)) (hl : link.length = 32) (n : Int) :
    Calls Tryd.prog 13 #[arrV b8 link, .int .i64 n] w fun e w' => ∃ A c, e = .returned (.agg (onceC n ((labV link lKey 44).take 32) (.slice A 12 c)).toArray) ∧
      Rd b8 w' w'.heap.size A ((labV link lKey 44).drop 32) ∧ Below w.heap.size w w' :=
  (refOf_anyG w link hl n).mono (fun e w' ⟨g, c, h1, _, _, h2, h3⟩ => ⟨_, c, h1, h2, h3⟩)
end Go.Proofs.YtmncihhofppkdaaDoor

/- CONTRACT: burrowlaw19.same, of alike values. -/
namespace Go.Proofs.YtmncihhofppkdaaDoor
open Go.RowKit
set_option linter.unusedVariables false
set_option linter.unusedSimpArgs false
/-- the load of a piece in a guarded operation -/
theorem wpList_load_midw {P : Program} {ops : Array Oper} {rest : List Oper} {op : Oper} {a : Act} {w : World} {Q : Exit → Act → World → Prop} (hgd : Region.wanted op (yielded ops a.tmps) = true) (ty : TypeId) (x : Operand) (ho : op.op = .load ty x)
    (b o : Nat) (hx : a.eval x = .pointer (some ⟨b, o, none⟩)) (cs : List Value) (d : TypeDesc) (hc : w.rangeAt b o cs)
    (hu : P.underlying ty = some d) (hd : d.isRow = true) (hi : (P.info? ty).map (·.size) = some cs.length)
    (h : wpList P ops Q rest (a.put op.dst (.agg cs.toArray)) w) : wpList P ops Q (op :: rest) a w :=
  wpList_step fun K hK => by
    rw [if_pos hgd]
    exact wp_load_mid ty x ho b o hx cs d hc hu hd hi (hK _ _ h)
set_option maxRecDepth 100000 in
set_option maxHeartbeats 2000000 in
theorem same19_any (w : World) (n : Int) (key ns : List (BitVec 8)) (hk : key.length = 32) (hn : ns.length = 12) (B1 B2 c : Nat) (b : Nat) (A : Option Addr) (h1 : Rd b8 w B1 (some ⟨b, 32, none⟩) ns) (hB1 : B1 ≤ w.heap.size) (h2 : Rd b8 w B2 A ns) (hB2 : B2 ≤ w.heap.size) :
    Calls Tryd.prog 12 #[.agg (onceC n key (nonceS b)).toArray, .agg (onceC n key (.slice A 12 c)).toArray] w fun e w' => e = .returned (.bool true) ∧ Below w.heap.size w w' := by
  obtain ⟨C1, hC1⟩ : ∃ C1, C1 = onceC n key (nonceS b) := ⟨_, rfl⟩
  obtain ⟨C2, hC2⟩ : ∃ C2, C2 = onceC n key (.slice A 12 c) := ⟨_, rfl⟩
  obtain ⟨w2, hw2⟩ : ∃ w2, w2 = (w.alloc (.cells C1.toArray 32)).alloc (.cells C2.toArray 38) := ⟨_, rfl⟩
  have b1 : Blk w2 w.heap.size 32 (onceC n key (nonceS b)) := by rw [hw2, ← hC1]; exact (Blk.new w _ _).alloc _
  have b2 : Blk w2 (w.heap.size + 1) 38 (onceC n key (.slice A 12 c)) := by rw [hw2, ← hC2]; exact Blk.at_size _ _ (by simp)
  have HB2 := Lib.hid (show Below w.heap.size w w2 by rw [hw2]; exact ((Below.refl _ w).alloc (Nat.le_refl _) _).alloc (by simp) _)
  have c0 := b1.cell 0 (u := .int .i64 n) rfl
  have d0 := b2.cell 0 (u := .int .i64 n) rfl
  have c33 := b1.cell 33 (u := nonceS b) (by unfold onceC; rw [List.getElem?_cons_succ, List.getElem?_append_right (by rw [List.length_map]; omega), List.length_map, hk]; rfl)
  have d33 := b2.cell 33 (u := .slice A 12 c) (by unfold onceC; rw [List.getElem?_cons_succ, List.getElem?_append_right (by rw [List.length_map]; omega), List.length_map, hk]; rfl)
  have r1 : w2.rangeAt w.heap.size 1 (key.map b8) := by
    have h := b1.range 1 32
    rwa [show ((onceC n key (nonceS b)).drop 1).take 32 = key.map b8 by unfold onceC; rw [List.drop_succ_cons, List.drop_zero, List.take_left' (by rw [List.length_map, hk])]] at h
  have r2 : w2.rangeAt (w.heap.size + 1) 1 (key.map b8) := by
    have h := b2.range 1 32
    rwa [show ((onceC n key (.slice A 12 c)).drop 1).take 32 = key.map b8 by unfold onceC; rw [List.drop_succ_cons, List.drop_zero, List.take_left' (by rw [List.length_map, hk])]] at h
  have HR1 := Lib.hid r1
  have HR2 := Lib.hid r2
  have HS1 := Lib.hid (h1.below (HB2.out.mono hB1))
  have HS2 := Lib.hid (h2.below (HB2.out.mono hB2))
  have HN := Lib.hid hn
  have HK := Lib.hid hk
  have HW2 := Lib.hid hw2
  unfold nonceS at c33
  rw [← hC1, ← hC2]
  clear hC1 hC2 b1 b2 r1 r2 h1 h2 hn hk hw2
  go_enter Tryd.func12, Tryd.ntmps12
  go_upto_region 1 with fail
  rw [← HW2.out]
  have hi32 : (Tryd.prog.info? 29).map (·.size) = some (key.map b8).length := by rw [List.length_map, HK.out]; exact sizeKey
  have HI := Lib.hid hi32
  clear hi32
  have heq : ∀ w : World, (Op.equalIn 10000 29 (.agg (key.map b8).toArray) (.agg (key.map b8).toArray)).run Tryd.prog w = .ok true w := fun w => by
    rw [map_b8_cell, run_equalIn_bytes w 9998 29 5 32 Tryd.underlying29 Tryd.underlying5 (fun _ => by kernel_rfl) (key.map u8) (key.map u8) (by simpa using HK.out) (by simpa using HK.out), u8_beq, beq_self_eq_true]
  go_wp2_with (first
    | (refine wpList_load_midw (by first | rfl | go_simp) 29 (.tmp 11) rfl w.heap.size 1 rfl (key.map b8) _ HR1.out Tryd.underlying29 rfl HI.out ?_)
    | (refine wpList_load_midw (by first | rfl | go_simp) 29 (.tmp 13) rfl (w.heap.size + 1) 1 rfl (key.map b8) _ HR2.out Tryd.underlying29 rfl HI.out ?_))
  refine (same_any 12 c HS1.out HS2.out HN.out HN.out).mono ?_
  rintro e w' ⟨rfl, rfl⟩
  rw [beq_self_eq_true]
  go_wp2_with fail
  first
    | exact ⟨by simp, .bool true, by kernel_rfl, rfl, HB2.out⟩
    | (go_ret; exact ⟨rfl, HB2.out⟩)
end Go.Proofs.YtmncihhofppkdaaDoor

/- PLAIN LAW: a line that is asked for one number after the other. -/
namespace Go.Proofs.YtmncihhofppkdaaDoor
open Go.RowKit
set_option linter.unusedVariables false
set_option linter.unusedSimpArgs false

/-- a line of which the first j numbers were asked for, in order -/
def lineJ (z : List (BitVec 8)) (j : Nat) : LineM := ⟨linkAt z j, (j : Int), [], (List.range j).map Int.ofNat, 0⟩
theorem lineJ_zero (z : List (BitVec 8)) : lineJ z 0 = startL z := rfl
theorem hiA_range (j : Nat) : hiA ((List.range j).map Int.ofNat) 0 = (j : Int) - 1 := by
  induction j with
  | zero => rfl
  | succ j ih =>
    rw [List.range_succ, List.map_append, List.map_singleton, hiA_snoc, ih]
    show (if (j : Int) - 1 < (j : Int) then (j : Int) else _) = _
    rw [if_pos (by omega)]; omega
theorem lineJ_takeE (z : List (BitVec 8)) (j : Nat) (hj : j ≤ 1000) : takeE (lineJ z j) (j : Int) = 0 := by
  have hm : ¬ (j : Int) ∈ (List.range j).map Int.ofNat := by
    intro h
    obtain ⟨a, ha, e⟩ := List.mem_map.1 h
    have := List.mem_range.1 ha
    have e2 : (a : Int) = (j : Int) := e
    omega
  have hh : hiM (lineJ z j) = (j : Int) - 1 := hiA_range j
  unfold takeE
  rw [if_neg (by omega), if_neg (by rw [hh]; omega), if_neg (show ¬ (j : Int) < (lineJ z j).low from by show ¬ (j : Int) < 0; omega), if_neg (show ¬ (j : Int) ∈ (lineJ z j).asked from hm), if_neg (show ¬ ((lineJ z j).place < (j : Int) ∧ _) from by show ¬ ((j : Int) < (j : Int) ∧ _); omega)]
theorem lineJ_takeO (z : List (BitVec 8)) (j : Nat) (hj : j ≤ 1000) : takeO (lineJ z j) (j : Int) = ofL (linkAt z j) (j : Int) :=
  takeO_run (l := lineJ z j) (n := (j : Int)) (k := 0) (by show (j : Int) = (j : Int) + ((0 : Nat) : Int); omega) (lineJ_takeE z j hj)
theorem lineJ_takeL (z : List (BitVec 8)) (j : Nat) : takeL (lineJ z j) (j : Int) = lineJ z (j + 1) := by
  have e1 : ((j : Int) + 1 - (lineJ z j).place).toNat = 1 := by show ((j : Int) + 1 - (j : Int)).toNat = 1; omega
  unfold takeL heldTo
  rw [e1]
  have hf : ((lineJ z j).held ++ runL (lineJ z j).link (lineJ z j).place 1).filter (keepO (j : Int) (hiA ((lineJ z j).asked ++ [(j : Int)]) (lineJ z j).low)) = [] := by
    rw [List.filter_eq_nil_iff]
    intro o ho
    rw [show (lineJ z j).held = [] from rfl, List.nil_append] at ho
    obtain ⟨q, hq, rfl⟩ := (mem_runL _ _ _ _).1 ho
    have hq0 : q = 0 := by omega
    subst hq0
    unfold keepO
    rw [ofL_no]
    have hp : (lineJ z j).place = (j : Int) := rfl
    rw [hp]
    simp
  rw [hf, if_pos (show (lineJ z j).place ≤ (j : Int) from Int.le_refl _)]
  unfold lineJ
  rw [List.range_succ, List.map_append]
  rfl
end Go.Proofs.YtmncihhofppkdaaDoor

/- an index out of any number; the maker's lines by their place. -/
namespace Go.Proofs.YtmncihhofppkdaaDoor
open Go.RowKit
theorem idx8 (a : Int) : ∃ i : Nat, i < 8 ∧ wrap64 ((IntKind.u64.wrap a).tmod 8) = (i : Int) := by
  have e : IntKind.u64.wrap a = a % 18446744073709551616 := rfl
  rw [e]
  have h0 : 0 ≤ a % 18446744073709551616 := Int.emod_nonneg _ (by decide)
  rw [Int.tmod_eq_emod_of_nonneg h0]
  generalize a % 18446744073709551616 = b at h0
  refine ⟨(b % 8).toNat, by omega, ?_⟩
  unfold wrap64
  omega
theorem mkL_get (k i : Nat) (hk : k ≤ 5) (hi : i < 2 ^ k) (s : List (BitVec 8)) (gms : List Nat) (hg : gms.length = 2 ^ k) (h : i < (mkL (secs k s) gms).length) : (mkL (secs k s) gms)[i].l = startL (leafS (2 ^ k) i s) := by
  have h1 := secs_leaf k hk i hi s
  have h2 : i < (secs k s).length := by rw [secs_len]; exact hi
  have h3 : (secs k s)[i] = leafS (2 ^ k) i s := by rw [List.getElem?_eq_getElem h2] at h1; exact Option.some.inj h1
  have hg2 : i < gms.length := by rw [hg]; exact hi
  have e : (mkL (secs k s) gms)[i]? = some ⟨startL (secs k s)[i], [], gms[i], false, 0, 0#64, []⟩ := by
    unfold mkL
    rw [List.getElem?_zipWith, List.getElem?_eq_getElem h2, List.getElem?_eq_getElem hg2]
  rw [List.getElem?_eq_getElem h] at e
  rw [Option.some.inj e]
  show startL (secs k s)[i] = _
  rw [h3]
end Go.Proofs.YtmncihhofppkdaaDoor

/- CONTRACTS: Chains.Next of a line. -/
namespace Go.Proofs.YtmncihhofppkdaaDoor
open Go.RowKit
set_option linter.unusedVariables false
set_option linter.unusedSimpArgs false


set_option maxRecDepth 100000
theorem ChAt.other {w w' : World} {gC gl g : Nat} {xs : List LP} {cs : List Value} (c : ChAt w gC gl xs) (hz : Blk w g 32 cs) (hg : w.grownBy w' (some g)) : ChAt w' gC gl xs :=
  ⟨c.top.kept hg (fun e => by
    injection e with e
    have h2 : w.heap[g]? = some (.cells cs.toArray 32 (0, 0)) := hz
    have h3 : w.heap[gC]? = some (.cells #[.slice (some ⟨gl, 0, none⟩) xs.length xs.length] 70 (0, 0)) := c.top
    rw [← e, h3] at h2; injection h2 with h2; injection h2 with _ hT _; exact absurd hT (by decide)),
   c.lines.grown hg (fun e => by
    injection e with e
    have h2 : w.heap[g]? = some (.cells cs.toArray 32 (0, 0)) := hz
    have h3 : w.heap[gl]? = some (.cells (xs.flatMap LP.cells).toArray 81 (0, 0)) := c.lines
    rw [← e, h3] at h2; injection h2 with h2; injection h2 with _ hT _; exact absurd hT (by decide)),
   c.ok, fun x hx => (c.held x hx).cells hz (by decide) hg, c.gms, c.blks⟩
set_option maxHeartbeats 4000000 in
theorem next_okZ (w : World) (gC gl : Nat) (xs : List LP) (hc : ChAt w gC gl xs) (i : Nat) (hi : i < xs.length) (hm : xs.length ≤ 1000) (hE : takeE xs[i].l xs[i].l.place = 0) :
    Calls Tryd.prog 11 #[.pointer (some ⟨gC, 0, none⟩), .int .i64 (i : Int)] w fun e w' => ∃ b y, e = .returned (.tuple #[.agg (onceC xs[i].l.place (takeO xs[i].l xs[i].l.place).key (nonceS b)).toArray, .nilIface]) ∧
      Arr b8 w' b 5 ((takeO xs[i].l xs[i].l.place).key ++ (takeO xs[i].l xs[i].l.place).nonce) ∧ LP.l y = takeL xs[i].l xs[i].l.place ∧ ChAt w' gC gl (xs.set i y) ∧ b ∉ (xs.set i y).flatMap (fun x => x.hp.map Prod.snd) ∧ w.grownBy w' (some gl) ∧ w.heap.size ≤ LP.gm y ∧ ∀ z ∈ b :: y.hp.map Prod.snd, z ∈ xs[i].hp.map Prod.snd ∨ w.heap.size ≤ z := by
  obtain ⟨w1, hw1⟩ : ∃ w1, w1 = w.alloc (.cells zeroOnce.toArray 32) := ⟨_, rfl⟩
  have HZ1 := Lib.hid (show Blk w1 w.heap.size 32 zeroOnce by rw [hw1]; exact Blk.new _ _ _)
  have HK1 := Lib.hid (show Below w.heap.size w w1 by rw [hw1]; exact (Below.refl _ w).alloc (Nat.le_refl _) _)
  have hz1 : w1.heap.size = w.heap.size + 1 := by rw [hw1]; simp
  have HW1 := Lib.hid hw1
  clear hw1
  have hgl := hc.lines.lt
  have HC1 := Lib.hid (hc.below HK1.out)
  have HL := Lib.hid (line_any w1 gC gl xs HC1.out i hi hm)
  have hx := hc.ok _ (List.getElem_mem hi)
  have c35 := HC1.out.range i hi 35 _ (lineC_35 hx.lok.len)
  have HT := Lib.hid (ctake_okZ w1 gC gl xs HC1.out i hi hm _ hE)
  have hKl : (takeO xs[i].l xs[i].l.place).key.length = 32 := by
    rw [takeO_run (l := xs[i].l) (n := xs[i].l.place) (k := 0) (by omega) hE]
    exact ofL_key _ _
  obtain ⟨O, hO⟩ : ∃ O, O = takeO xs[i].l xs[i].l.place := ⟨_, rfl⟩
  obtain ⟨L, hL⟩ : ∃ L, L = takeL xs[i].l xs[i].l.place := ⟨_, rfl⟩
  rw [← hO, ← hL] at HT
  rw [← hO] at hKl
  rw [← hO, ← hL]
  generalize xs[i].l.place = p at c35 HT ⊢
  have HKl := Lib.hid hKl
  clear hE hx hO hL hc hKl
  go_enter Tryd.func11, Tryd.ntmps11
  go_upto_region 1 with fail
  have hw1 := HW1.out
  simp only [show zeroOnce.toArray = #[Value.int .i64 0, Value.int .u8 0, Value.int .u8 0, Value.int .u8 0, Value.int .u8 0, Value.int .u8 0, Value.int .u8 0, Value.int .u8 0, Value.int .u8 0, Value.int .u8 0, Value.int .u8 0, Value.int .u8 0, Value.int .u8 0, Value.int .u8 0, Value.int .u8 0, Value.int .u8 0, Value.int .u8 0, Value.int .u8 0, Value.int .u8 0, Value.int .u8 0, Value.int .u8 0, Value.int .u8 0, Value.int .u8 0, Value.int .u8 0, Value.int .u8 0, Value.int .u8 0, Value.int .u8 0, Value.int .u8 0, Value.int .u8 0, Value.int .u8 0, Value.int .u8 0, Value.int .u8 0, Value.int .u8 0, Value.slice none 0 0] from rfl] at hw1
  rw [← hw1]
  clear hw1
  go_wp2_with fail
  refine HL.out.mono ?_
  rintro e w2 ⟨rfl, rfl⟩
  go_wp2_with fail
  refine HT.out.mono ?_
  rintro e w3 ⟨b, y, rfl, hA3, hyl, hC3, hnd, hg3, hgm3, hzz3⟩
  have HZ3 := Lib.hid (HZ1.out.grown hg3 (fun e => by injection e with e; omega))
  have HZz3 := Lib.hid hzz3
  have HA3 := Lib.hid hA3
  have HC3 := Lib.hid hC3
  have HYl := Lib.hid hyl
  have HNd := Lib.hid hnd
  have HG3 := Lib.hid (show w.grownBy w3 (some gl) from grownBy_trans ⟨HK1.out.os, HK1.out.tape, HK1.out.output, HK1.out.size, fun k hk _ => HK1.out.block k hk⟩ hg3 (fun _ e => .inl e))
  clear hA3 hC3 hyl hnd hg3 hzz3
  go_wp2_with (refine wpList_store_piece rfl 32 (.tmp 4) (.tmp 21) rfl w.heap.size 0 rfl (onceC p O.key (nonceS b)) rfl 32 _ [] zeroOnce [] HZ3.out (by simp) rfl (by rw [onceC_len _ _ _ HKl.out]; rfl) (by rw [sizeOnce, onceC_len _ _ _ HKl.out]) (onceC_one _ _ _ _ _) ?_; intro w9 hx9 hg9)
  have HX9 := Lib.hid (show Blk w9 w.heap.size 32 (onceC p O.key (nonceS b)) from hx9.cast (by simp))
  refine bodyPost_ret (v := .tuple #[.agg (onceC p O.key (nonceS b)).toArray, .nilIface]) (results_blk_tmp (g := w.heap.size) rfl _ _ _ _ _ _ rfl rfl HX9.out Tryd.underlying32 rfl (by rw [sizeOnce, onceC_len _ _ _ HKl.out])) rfl ?_
  have hg := HG3.out
  exact ⟨b, y, rfl, arr_grown_line HA3.out HZ3.out (by decide) hg9, HYl.out, HC3.out.other HZ3.out hg9, HNd.out, ⟨hg9.os.trans hg.os, hg9.tape.trans hg.tape, hg9.output.trans hg.output, Nat.le_trans hg.size hg9.size, fun k hk hne => (hg9.block k (Nat.lt_of_lt_of_le hk hg.size) (fun e => by injection e with e; omega)).trans (hg.block k hk hne)⟩, by omega, fun z hz => by
    rcases HZz3.out z hz with h | h
    · exact .inl h
    · exact .inr (by omega)⟩
theorem next_okG (w : World) (gC gl : Nat) (xs : List LP) (hc : ChAt w gC gl xs) (i : Nat) (hi : i < xs.length) (hm : xs.length ≤ 1000) (hE : takeE xs[i].l xs[i].l.place = 0) :
    Calls Tryd.prog 11 #[.pointer (some ⟨gC, 0, none⟩), .int .i64 (i : Int)] w fun e w' => ∃ b y, e = .returned (.tuple #[.agg (onceC xs[i].l.place (takeO xs[i].l xs[i].l.place).key (nonceS b)).toArray, .nilIface]) ∧
      Arr b8 w' b 5 ((takeO xs[i].l xs[i].l.place).key ++ (takeO xs[i].l xs[i].l.place).nonce) ∧ LP.l y = takeL xs[i].l xs[i].l.place ∧ ChAt w' gC gl (xs.set i y) ∧ b ∉ (xs.set i y).flatMap (fun x => x.hp.map Prod.snd) ∧ w.grownBy w' (some gl) ∧ w.heap.size ≤ LP.gm y :=
  (next_okZ w gC gl xs hc i hi hm hE).mono (fun e w' ⟨b, y, h1, h2, h3, h4, h5, h6, h7, _⟩ => ⟨b, y, h1, h2, h3, h4, h5, h6, h7⟩)
theorem next_ok (w : World) (gC gl : Nat) (xs : List LP) (hc : ChAt w gC gl xs) (i : Nat) (hi : i < xs.length) (hm : xs.length ≤ 1000) (hE : takeE xs[i].l xs[i].l.place = 0) :
    Calls Tryd.prog 11 #[.pointer (some ⟨gC, 0, none⟩), .int .i64 (i : Int)] w fun e w' => ∃ b y, e = .returned (.tuple #[.agg (onceC xs[i].l.place (takeO xs[i].l xs[i].l.place).key (nonceS b)).toArray, .nilIface]) ∧
      Arr b8 w' b 5 ((takeO xs[i].l xs[i].l.place).key ++ (takeO xs[i].l xs[i].l.place).nonce) ∧ LP.l y = takeL xs[i].l xs[i].l.place ∧ ChAt w' gC gl (xs.set i y) ∧ b ∉ (xs.set i y).flatMap (fun x => x.hp.map Prod.snd) ∧ w.grownBy w' (some gl) :=
  (next_okG w gC gl xs hc i hi hm hE).mono (fun e w' ⟨b, y, h1, h2, h3, h4, h5, h6, _⟩ => ⟨b, y, h1, h2, h3, h4, h5, h6⟩)
end Go.Proofs.YtmncihhofppkdaaDoor
