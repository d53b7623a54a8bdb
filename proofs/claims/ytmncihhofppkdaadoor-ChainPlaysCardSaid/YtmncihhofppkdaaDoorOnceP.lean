/- CONTRACT: chain.once. -/
import Derived.Test.YtmncihhofppkdaaDoorLabel
import Derived.Test.YtmncihhofppkdaaDoorBase
import Derived.OrdersHeld
import Derived.Deep.RegionHeld3
namespace Go.Proofs.YtmncihhofppkdaaDoor
open Go.RowKit
set_option linter.unusedVariables false
set_option linter.unusedSimpArgs false

/-- the cells of a number's key and nonce -/
def onceC (no : Int) (key : List (BitVec 8)) (v : Value) : List Value := .int .i64 no :: (key.map b8 ++ [v])
theorem onceC_len (no : Int) (key : List (BitVec 8)) (v : Value) (h : key.length = 32) : (onceC no key v).length = 34 := by simp [onceC, h]
def nonceS (g : Nat) : Value := .slice (some ⟨g, 32, none⟩) 12 12
set_option maxRecDepth 100000 in
theorem built_once (no : Int) (key : List (BitVec 8)) (h : key.length = 32) (A : Option Addr) (n c : Nat) :
    Tryd.prog.built 32 [(0, .int .i64 no), (1, .agg (key.map b8).toArray), (2, .slice A n c)] = some (onceC no key (.slice A n c)).toArray := by
  obtain ⟨x0, x1, x2, x3, x4, x5, x6, x7, x8, x9, x10, x11, x12, x13, x14, x15, x16, x17, x18, x19, x20, x21, x22, x23, x24, x25, x26, x27, x28, x29, x30, x31, rfl⟩ := list_of32 h
  kernel_rfl
def zeroOnce : List Value := onceC 0 (List.replicate 32 0#8) (.slice none 0 0)
theorem built_zeroOnce : Tryd.prog.built 32 [] = some zeroOnce.toArray := by kernel_rfl
theorem sizeOnce : (Tryd.prog.info? 32).map (·.size) = some 34 := by kernel_rfl
theorem sizeKey : (Tryd.prog.info? 29).map (·.size) = some 32 := by kernel_rfl
theorem onceC_one (no : Int) (key : List (BitVec 8)) (A : Option Addr) (n c : Nat) : ∀ u ∈ onceC no key (.slice A n c), u.oneCell' = true := by
  intro u hu
  unfold onceC at hu
  rcases List.mem_cons.1 hu with rfl | hu
  · rfl
  rcases List.mem_append.1 hu with hu | hu
  · obtain ⟨x, -, rfl⟩ := List.mem_map.1 hu; exact b8_one x
  · rw [List.mem_singleton] at hu; subst hu; rfl
theorem strKey : StrOf ⟨#[107, 101, 121]⟩ lKey := by unfold StrOf lKey; decide
theorem strNext : StrOf ⟨#[110, 101, 120, 116]⟩ lNext := by unfold StrOf lNext; decide
theorem strLeft : StrOf ⟨#[108, 101, 102, 116]⟩ lLeft := by unfold StrOf lLeft; decide
theorem strRight : StrOf ⟨#[114, 105, 103, 104, 116]⟩ lRight := by unfold StrOf lRight; decide
theorem run_buildE {P : Program} {t : TypeId} {parts : Array (Nat × Operand)} {vals : List (Nat × Value)} {cells : Array Value} {op : Oper} (ho : op.op = .build t parts) (ρ : Operand → Value) (hv : parts.toList.map (fun x => (x.1, ρ x.2)) = vals) (hb : P.built t vals = some cells) (w : World) :
    (execOp ρ op).run P w = .ok (.value (.agg cells)) w := by
  have hr := run_build (P := P) w t vals.toArray cells hb
  rw [← hv, ← List.map_toArray] at hr
  unfold execOp
  simp only [ho]
  simp only [Array.toArray_toList] at hr
  simp only [Sem.run_bind, hr, Result.andThen_ok, Sem.run_pure]
set_option maxRecDepth 100000 in
set_option maxHeartbeats 4000000 in
theorem once_any (w : World) (link : List (BitVec 8)) (hl : link.length = 32) (n : Int) :
    Calls Tryd.prog 55 #[arrV b8 link, .int .i64 n] w fun e w' => ∃ g, e = .returned (.tuple #[.agg (onceC n ((labV link lKey 44).take 32) (nonceS g)).toArray, .nilIface]) ∧
      w.heap.size ≤ g ∧ Arr b8 w' g 5 (labV link lKey 44) ∧ Below w.heap.size w w' := by
  have HS := Lib.hid hl
  obtain ⟨V, hV⟩ : ∃ V, V = labV link lKey 44 := ⟨_, rfl⟩
  have HVl := Lib.hid (show V.length = 44 by rw [hV]; exact labV_len _ _ _ (by omega))
  have HV := Lib.hid hV
  obtain ⟨Kk, hKk⟩ : ∃ Kk, Kk = V.take 32 := ⟨_, rfl⟩
  have HKl := Lib.hid (show Kk.length = 32 by rw [hKk, List.length_take, HVl.out]; rfl)
  have HKe := Lib.hid hKk
  obtain ⟨w2, hw2⟩ : ∃ w2, w2 = (w.alloc (.cells (link.map b8).toArray 23)).alloc (.cells zeroOnce.toArray 32) := ⟨_, rfl⟩
  have HA2 := Lib.hid (show Arr b8 w2 w.heap.size 23 link by rw [hw2]; exact (Arr.new b8 w 23 link).alloc _)
  have HZ2 := Lib.hid (show Blk w2 (w.heap.size + 1) 32 zeroOnce by rw [hw2]; exact Blk.at_size _ _ (by simp))
  have HB2 := Lib.hid (show Below w.heap.size w w2 by rw [hw2]; exact ((Below.refl _ w).alloc (Nat.le_refl _) _).alloc (by simp) _)
  have hz2 : w2.heap.size = w.heap.size + 2 := by rw [hw2]; simp
  have HW2 := Lib.hid hw2
  rw [← hV, ← hKk, arrV_mk]
  clear hl hV hw2 hKk
  go_enter Tryd.func55, Tryd.ntmps55
  go_upto_region 1 with fail
  have hw2 := HW2.out
  simp only [show zeroOnce.toArray = #[Value.int .i64 0, Value.int .u8 0, Value.int .u8 0, Value.int .u8 0, Value.int .u8 0, Value.int .u8 0, Value.int .u8 0, Value.int .u8 0, Value.int .u8 0, Value.int .u8 0, Value.int .u8 0, Value.int .u8 0, Value.int .u8 0, Value.int .u8 0, Value.int .u8 0, Value.int .u8 0, Value.int .u8 0, Value.int .u8 0, Value.int .u8 0, Value.int .u8 0, Value.int .u8 0, Value.int .u8 0, Value.int .u8 0, Value.int .u8 0, Value.int .u8 0, Value.int .u8 0, Value.int .u8 0, Value.int .u8 0, Value.int .u8 0, Value.int .u8 0, Value.int .u8 0, Value.int .u8 0, Value.int .u8 0, Value.slice none 0 0] from rfl] at hw2
  rw [← hw2]
  clear hw2
  have hlb := label_any w2 link HS.out ⟨#[107, 101, 121]⟩ lKey strKey (by decide) 44 (by omega)
  rw [arrV_mk, ← HV.out, show (((44 : Nat) : Nat) : Int) = 44 from rfl] at hlb
  have HL := Lib.hid hlb
  clear hlb
  go_wp2_with (first | (refine wpList_load_arr rfl 23 (.tmp 2) rfl w.heap.size rfl _ link HA2.out _ Tryd.underlying23 rfl (by rw [size32, HS.out]) ?_))
  refine HL.out.mono ?_
  rintro e w3 ⟨g, rfl, ho, hb⟩
  have HO3 := Lib.hid (own_arr ho)
  have hgl := (ho.lt g rfl).1
  have HZ3 := Lib.hid (HZ2.out.below hb (by omega))
  have hz3 := hb.size
  have HB3 := Lib.hid (HB2.out.trans (hb.mono (by omega)))
  clear ho hb HZ2 HB2
  have HKeep := Lib.hid (show ∀ W' : World, Arr b8 W' g 5 V → W'.rangeAt g 0 (Kk.map b8) from fun W' ha => by
    have h := ha.range 0 32
    rw [HKe.out, List.map_take]
    simpa using h)
  have hk3 := HKeep.out _ HO3.out.drew
  have hu := Tryd.underlying29
  have hi32 : (Tryd.prog.info? 29).map (·.size) = some (Kk.map b8).length := by rw [List.length_map, HKl.out]; exact sizeKey
  have hsa : ∀ W : World, (Instr.arrayAt 29 (.slice (some ⟨g, 0, none⟩) 32 44)).run Tryd.prog W = .ok (.pointer (some ⟨g, 0, none⟩)) W := fun W => by kernel_rfl
  go_upto_region 4 with fail
  --{R4
  refine wp_region_noPanic ?_
  refine wp_region_held_drew (S := fun w' => w'.rangeAt g 0 (Kk.map b8)) (by kernel_rfl) hk3 (fun hS => ?_)
  refine wpAnyH_take (i := 0) (oi := { dst := some 17, op := _, type := _, pos := _, after := _, guard := _ }) (v := .int .i64 n) rfl (by kernel_rfl) (by kernel_rfl) (by kernel_rfl) (fun _ _ _ h => h) (Or.inl ⟨by rfl, ?_⟩) hS ?_
  · intro w' hw'
    go_simp
  try simp only [Act.put, List.setIfInBounds_toArray, List.set_cons_zero, List.set_cons_succ]
  refine wpAnyH_take (i := 1) (oi := { dst := some 18, op := _, type := _, pos := _, after := _, guard := _ }) (v := .slice (some ⟨g, 0, none⟩) 44 44) rfl (by kernel_rfl) (by kernel_rfl) (by kernel_rfl) (fun _ _ _ h => h) (Or.inl ⟨by rfl, ?_⟩) hS ?_
  · intro w' hw'
    go_simp
  try simp only [Act.put, List.setIfInBounds_toArray, List.set_cons_zero, List.set_cons_succ]
  refine wpAnyH_take (i := 2) (oi := { dst := some 19, op := _, type := _, pos := _, after := _, guard := _ }) (v := .slice (some ⟨g, 0, none⟩) 32 44) rfl (by kernel_rfl) (by kernel_rfl) (by kernel_rfl) (fun _ _ _ h => h) (Or.inl ⟨by rfl, ?_⟩) hS ?_
  · intro w' hw'
    go_simp
  try simp only [Act.put, List.setIfInBounds_toArray, List.set_cons_zero, List.set_cons_succ]
  refine wpAnyH_take (i := 3) (oi := { dst := some 20, op := _, type := _, pos := _, after := _, guard := _ }) (v := .pointer (some ⟨g, 0, none⟩)) rfl (by kernel_rfl) (by kernel_rfl) (by kernel_rfl) (fun _ _ _ h => h) (Or.inl ⟨by rfl, ?_⟩) hS ?_
  · intro w' hw'
    go_simp
  try simp only [Act.put, List.setIfInBounds_toArray, List.set_cons_zero, List.set_cons_succ]
  refine wpAnyH_take (i := 4) (oi := { dst := some 21, op := _, type := _, pos := _, after := _, guard := _ }) (v := .agg (Kk.map b8).toArray) rfl (by kernel_rfl) (by kernel_rfl) (by kernel_rfl) (fun _ _ _ h => h) (yieldsIf_load_mid (by rfl) 29 (.tmp 20) rfl g 0 rfl (Kk.map b8) _ (fun _ h => h) hu rfl hi32) hS ?_
  try simp only [Act.put, List.setIfInBounds_toArray, List.set_cons_zero, List.set_cons_succ]
  refine wpAnyH_take (i := 5) (oi := { dst := some 22, op := _, type := _, pos := _, after := _, guard := _ }) (v := .slice (some ⟨g, 0, none⟩) 44 44) rfl (by kernel_rfl) (by kernel_rfl) (by kernel_rfl) (fun _ _ _ h => h) (Or.inl ⟨by rfl, ?_⟩) hS ?_
  · intro w' hw'
    go_simp
  try simp only [Act.put, List.setIfInBounds_toArray, List.set_cons_zero, List.set_cons_succ]
  refine wpAnyH_take (i := 6) (oi := { dst := some 23, op := _, type := _, pos := _, after := _, guard := _ }) (v := .slice (some ⟨g, 32, none⟩) 12 12) rfl (by kernel_rfl) (by kernel_rfl) (by kernel_rfl) (fun _ _ _ h => h) (Or.inl ⟨by rfl, ?_⟩) hS ?_
  · intro w' hw'
    go_simp
  try simp only [Act.put, List.setIfInBounds_toArray, List.set_cons_zero, List.set_cons_succ]
  refine wpAnyH_take (i := 7) (oi := { dst := some 24, op := _, type := _, pos := _, after := _, guard := _ }) (v := .agg (onceC n Kk (nonceS g)).toArray) rfl (by kernel_rfl) (by kernel_rfl) (by kernel_rfl) (fun _ _ _ h => h) (Or.inl ⟨by rfl, fun w' _ => run_buildE rfl _ rfl (built_once n Kk HKl.out _ _ _) w'⟩) hS ?_
  try simp only [Act.put, List.setIfInBounds_toArray, List.set_cons_zero, List.set_cons_succ]
  refine wpAnyH_ready (rs := [8]) (by kernel_rfl) (by simp) (AllReadyH.cons (o := { dst := none, op := _, type := _, pos := _, after := _, guard := _ }) rfl (fun K' hK => ?_) AllReadyH.nil)
  rw [if_pos (by rfl)]
  refine wp_store_piece 32 (.tmp 4) (.tmp 24) rfl (w.heap.size + 1) 0 rfl (onceC n Kk (nonceS g)) rfl _ _ [] zeroOnce [] HZ3.out.drew (by simp) rfl (by rw [onceC_len _ _ _ HKl.out]; rfl) (by rw [sizeOnce, onceC_len _ _ _ HKl.out]) (onceC_one _ _ _ _ _) ?_
  intro w4 hx4 hg4
  have HX4 := Lib.hid (show Blk w4 (w.heap.size + 1) 32 (onceC n Kk (nonceS g)) from hx4.cast (by simp))
  have HG4 := Lib.hid hg4
  have HO4 := Lib.hid (HO3.out.drew.grown hg4 (fun e => by injection e with e; omega))
  clear hx4 hg4
  refine hK.out _ _ (HKeep.out _ HO4.out) (fun hS => ?_)
  clear hK K'
  try simp only [Act.put, List.setIfInBounds_toArray, List.set_cons_zero, List.set_cons_succ]
  refine wpAnyH_ready (rs := [9]) (by kernel_rfl) (by simp) (AllReadyH.cons (o := { dst := some 5, op := _, type := _, pos := _, after := _, guard := _ }) rfl (fun K' hK => ?_) AllReadyH.nil)
  go_simp
  refine hK.out _ _ (HKeep.out _ HO4.out) (fun hS => ?_)
  clear hK K'
  try simp only [Act.put, List.setIfInBounds_toArray, List.set_cons_zero, List.set_cons_succ]
  refine wpAnyH_done (by kernel_rfl) ?_ _
  refine NoPanic.normal ?_
  --}R4
  go_wp2_with fail
  refine bodyPost_ret (v := .tuple #[.agg (onceC n Kk (nonceS g)).toArray, .nilIface]) (results_blk_tmp (g := w.heap.size + 1) rfl _ _ _ _ _ _ rfl rfl HX4.out Tryd.underlying32 rfl (by rw [sizeOnce, onceC_len _ _ _ HKl.out])) rfl ?_
  exact ⟨g, rfl, by omega, HO4.out, HB3.out.drew.grown HG4.out (by have := HB3.out.size; exact this) (fun k e => by cases e; omega)⟩
end Go.Proofs.YtmncihhofppkdaaDoor
