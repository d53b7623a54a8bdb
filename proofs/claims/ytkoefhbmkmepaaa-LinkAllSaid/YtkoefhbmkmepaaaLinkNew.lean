/- CONTRACTS: link.New; Next and Highest of a link. -/
import Derived.Test.YtkoefhbmkmepaaaLinkT
import Derived.Test.YtkoefhbmkmepaaaOpenKey
namespace Go.Proofs.Ytkoefhbmkmepaaa
open Go.RowKit
set_option linter.unusedVariables false
set_option linter.unusedSimpArgs false

/-- a new link's cells -/
def linkC (sk rk : List (BitVec 8)) : List Value := [.bool false, .int .i64 0, .int .u64 (bv 0#64)] ++ sk.map b8 ++ rk.map b8 ++ [.int .i64 0]
set_option maxRecDepth 100000 in
theorem built_link (sk rk : List (BitVec 8)) (hs : sk.length = 32) (hr : rk.length = 32) :
    Try.prog.built 67 [(1, .agg (sk.map b8).toArray), (2, .agg (rk.map b8).toArray)] = some (linkC sk rk).toArray := by
  obtain ⟨x0, x1, x2, x3, x4, x5, x6, x7, x8, x9, x10, x11, x12, x13, x14, x15, x16, x17, x18, x19, x20, x21, x22, x23, x24, x25, x26, x27, x28, x29, x30, x31, rfl⟩ := list_of32 hs
  obtain ⟨y0, y1, y2, y3, y4, y5, y6, y7, y8, y9, y10, y11, y12, y13, y14, y15, y16, y17, y18, y19, y20, y21, y22, y23, y24, y25, y26, y27, y28, y29, y30, y31, rfl⟩ := list_of32 hr
  kernel_rfl
theorem LinkAt.new (w : World) (T : TypeId) (sk rk : List (BitVec 8)) (hs : sk.length = 32) (hr : rk.length = 32) : LinkAt (w.alloc (.cells (linkC sk rk).toArray T)) w.heap.size false 0 0#64 sk rk 0 := by
  have hA : Arr (fun v : Value => v) (w.alloc (.cells (linkC sk rk).toArray T)) w.heap.size T (linkC sk rk) := by
    have := Arr.new (fun v : Value => v) w T (linkC sk rk)
    rwa [List.map_id'] at this
  have hc : ∀ i v, (linkC sk rk)[i]? = some v → (w.alloc (.cells (linkC sk rk).toArray T)).cell? ⟨w.heap.size, i, none⟩ = some v := fun i v h => hA.at_ h
  have e3 : ∀ j v, (sk.map b8)[j]? = some v → (linkC sk rk)[3 + j]? = some v := fun j v h => by
    have hj := (List.getElem?_eq_some_iff.1 h).1
    unfold linkC
    rw [List.append_assoc, List.append_assoc, List.getElem?_append_right (by simp), List.getElem?_append_left (by simpa using hj), ← h]
    congr 1
    simp
  have e35 : ∀ j v, (rk.map b8)[j]? = some v → (linkC sk rk)[35 + j]? = some v := fun j v h => by
    have hj := (List.getElem?_eq_some_iff.1 h).1
    unfold linkC
    rw [List.append_assoc, List.getElem?_append_right (by simp [hs]), List.getElem?_append_left (by simp [hs]; simp at hj; omega), ← h]
    congr 1
    simp [hs]
  refine ⟨⟨hc 0 _ rfl, hc 1 _ rfl, hc 2 _ rfl, hA.frozen _, hA.frozen _, hA.frozen _⟩, fun j v h => hc _ _ (e3 j v h), fun j v h => hc _ _ (e35 j v h), hc 67 _ ?_, hA.frozen _, hA.lt, hs, hr⟩
  unfold linkC
  rw [List.getElem?_append_right (by simp [hs, hr])]
  simp [hs, hr]
set_option maxRecDepth 100000 in
set_option maxHeartbeats 1000000 in
theorem lnew_any (w : World) (sk rk : List (BitVec 8)) (hs : sk.length = 32) (hr : rk.length = 32) :
    Calls Try.prog 17 #[.agg (sk.map b8).toArray, .agg (rk.map b8).toArray] w fun e w' => ∃ g, e = .returned (.pointer (some ⟨g, 0, none⟩)) ∧ w.heap.size ≤ g ∧ LinkAt w' g false 0 0#64 sk rk 0 ∧ Below w.heap.size w w' := by
  have HS := Lib.hid hs
  have HR := Lib.hid hr
  have HB := Lib.hid (built_link sk rk hs hr)
  obtain ⟨C, hC⟩ : ∃ C, C = linkC sk rk := ⟨_, rfl⟩
  rw [← hC] at HB
  have HA1 := Lib.hid ((Arr.new b8 w 39 sk).alloc (.cells (rk.map b8).toArray 39))
  have HA2 := Lib.hid (show Arr b8 ((w.alloc (.cells (sk.map b8).toArray 39)).alloc (.cells (rk.map b8).toArray 39)) (w.heap.size + 1) 39 rk from Arr.at_size b8 _ rk (by simp))
  have HL := Lib.hid (show ∀ W : World, LinkAt (W.alloc (.cells C.toArray 67)) W.heap.size false 0 0#64 sk rk 0 by intro W; rw [hC]; exact LinkAt.new _ _ sk rk hs hr)
  have HBel := Lib.hid (show Below w.heap.size w (((w.alloc (.cells (sk.map b8).toArray 39)).alloc (.cells (rk.map b8).toArray 39)).alloc (.cells C.toArray 67)) by (repeat' (first | assumption | exact Below.refl _ _ | refine Below.drew ?_ | refine Below.alloc ?_ ?_ _ | omega | (simp; done) | (simp; omega))))
  clear hs hr hC
  go_enter Try.func17, Try.ntmps17
  go_wp2_with (first
    | (refine wpList_load_arr (op := { dst := some 5, op := _, type := _, pos := _, after := _, guard := _ }) rfl 39 (.tmp 2) rfl w.heap.size rfl _ sk HA1.out _ Try.underlying39 rfl (by rw [HS.out]; exact size32k) ?_)
    | (refine wpList_load_arr (op := { dst := some 6, op := _, type := _, pos := _, after := _, guard := _ }) rfl 39 (.tmp 3) rfl (w.heap.size + 1) rfl _ rk HA2.out _ Try.underlying39 rfl (by rw [HR.out]; exact size32k) ?_)
    | (refine wpList_bparts rfl 67 [(1, .tmp 5), (2, .tmp 6)] rfl C.toArray _ rfl HB.out ?_))
  go_ret
  have hq := HL.out ((w.alloc (.cells (sk.map b8).toArray 39)).alloc (.cells (rk.map b8).toArray 39))
  rw [World.size_alloc, World.size_alloc] at hq
  refine ⟨_, rfl, ?_, hq, HBel.out⟩
  omega
set_option maxRecDepth 100000 in
theorem lnext_any (w : World) (g : Nat) (t : Bool) (h : Int) (s : BitVec 64) (sk rk : List (BitVec 8)) (nx : Int) (hx : LinkAt w g t h s sk rk nx) :
    Calls Try.prog 21 #[.pointer (some ⟨g, 0, none⟩)] w fun e w' => e = .returned (.int .i64 nx) ∧ w = w' := by
  have c := hx.nc
  clear hx
  go_enter Try.func21, Try.ntmps21
  go_wp2_with fail
  go_ret
  exact ⟨rfl, rfl⟩
set_option maxRecDepth 100000 in
theorem lhighest_any (w : World) (g : Nat) (t : Bool) (h : Int) (s : BitVec 64) (sk rk : List (BitVec 8)) (nx : Int) (hx : LinkAt w g t h s sk rk nx) :
    Calls Try.prog 22 #[.pointer (some ⟨g, 0, none⟩)] w fun e w' => e = .returned (.int .i64 (if t then h else -1)) ∧ w = w' := by
  have hh := highest_any g t h s w hx.win
  generalize (if t = true then h else -1) = z at hh ⊢
  have HH := Lib.hid hh
  clear hx hh
  go_enter Try.func22, Try.ntmps22
  go_wp2_with fail
  refine HH.out.mono ?_
  rintro e w' ⟨rfl, rfl⟩
  go_wp2_with fail
  go_ret
  exact ⟨rfl, rfl⟩
end Go.Proofs.Ytkoefhbmkmepaaa
