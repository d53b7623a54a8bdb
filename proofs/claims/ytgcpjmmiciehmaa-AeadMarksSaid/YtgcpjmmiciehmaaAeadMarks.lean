/- AeadMarks, the walk: the program's mark of two parts is the document's mark of the parts put together; the copy is kept. -/
import Derived.Test.YtgcpjmmiciehmaaAlive04
import Derived.Test.YtgcpjmmiciehmaaOpenR
import Derived.Test.YtgcpjmmiciehmaaCopy
import Derived.Test.YtgcpjmmiciehmaaArrIn
namespace Go.Proofs.Ytgcpjmmiciehmaa
open Go.RowKit
set_option linter.unusedVariables false
set_option linter.unusedSimpArgs false

/-- an empty literal in its block -/
def PE (w : World) (g : Nat) : Prop := w.heap[g]? = some (.cells #[] 5 (0, 0))
theorem PE.lt {w : World} {g : Nat} (h : PE w g) : g < w.heap.size := (Array.getElem?_eq_some_iff.1 h).1
theorem pe_new {w : World} {g : Nat} (hg : g = w.heap.size) : PE (w.alloc (.cells #[] 5)) g := by subst hg; exact heap_alloc_new w _
theorem pe_al {w : World} {g : Nat} {o : Obj} (h : PE w g) : PE (w.alloc o) g := (Below.heap_alloc w o g h.lt).trans h
theorem pe_bel {w w' : World} {g : Nat} (hb : Below w.heap.size w w') (h : PE w g) : PE w' g := (hb.block g h.lt).trans h
theorem pe_newS {w : World} {g : Nat} (hg : g = w.heap.size) : PE (w.alloc (.cells #[] 5)) g = True := eq_true (pe_new hg)
theorem pe_alS {w : World} {g : Nat} {o : Obj} (h : PE w g) : PE (w.alloc o) g = True := eq_true (pe_al h)
theorem pe_drS {w : World} {g : Nat} : PE w.drew g = PE w g := rfl
theorem own_pe {w : World} {g B : Nat} (h : PE w g) (hB : B ≤ g) : Own b8 w B 5 (.slice (some ⟨g, 0, none⟩) 0 0) [] :=
  ⟨by simp, .inr ⟨g, 0, #[], rfl, hB, h, by simp, by simp [maxLen], by simp, by simp⟩⟩
theorem sizeU8s (w : World) : (sizeOf 5).run Try.prog w = .ok 1 w := by kernel_rfl
set_option maxRecDepth 100000 in
set_option maxHeartbeats 4000000 in
theorem aeadMarks_walk (key : List (BitVec 8)) (hk : key.length = 32) (A1 : Option Addr) (n1 c1 : Nat) (xs : List (BitVec 8)) {W : World} (hr1 : Rd b8 W W.heap.size A1 xs) (hn1 : xs.length = n1) (hc1 : n1 ≤ c1) (hm1 : c1 ≤ maxLen)
    (A2 : Option Addr) (n2 c2 : Nat) (ys : List (BitVec 8)) (hr2 : Rd b8 W W.heap.size A2 ys) (hn2 : ys.length = n2) (hc2 : n2 ≤ c2) (hm2 : c2 ≤ maxLen) :
    Calls Try.prog 9 #[.agg (key.map b8).toArray, .slice A1 n1 c1, .slice A2 n2 c2] W fun e w' => e = .returned (.bool true) ∧ Below W.heap.size W w' := by
  obtain ⟨i0, hi0, hz0, hz1, hz2⟩ := info_parts infoU8
  have HK := Lib.hid hk
  have H1 := Lib.hid hn1
  have H2 := Lib.hid hn2
  have R1 := Lib.hid hr1
  have R2 := Lib.hid hr2
  clear hk hn1 hn2 hr1 hr2 hc1 hm1 hc2 hm2
  have HK0 := Lib.hid (Arr.new b8 W 38 key)
  have hb0 : Below W.heap.size W (W.alloc (.cells (key.map b8).toArray 38)) := (Below.refl _ W).alloc (Nat.le_refl _) _
  have hzw0 : (W.alloc (.cells (key.map b8).toArray 38)).heap.size = W.heap.size + 1 := by simp
  by_cases k1 : (n1 : Int) > 500
  ·
    go_enter Try.func9, Try.ntmps9
    go_wp2_with fail
    generalize W.alloc (.cells (key.map b8).toArray 38) = W0 at HK0 hb0 hzw0 ⊢
    refine (alive04_any _).mono ?_
    rintro e w1 ⟨rfl, hb1⟩
    have hz1' := hb1.size
    have HK1 := Lib.hid (HK0.out.below hb1 (by omega))
    have HB1 := Lib.hid (hb0.trans (hb1.mono (by omega)))
    clear hb0 hb1 HK0
    go_wp2_with fail
    go_ret
    exact ⟨rfl, HB1.out⟩
  by_cases k2 : (n2 : Int) > 500
  ·
    go_enter Try.func9, Try.ntmps9
    go_wp2_with fail
    generalize W.alloc (.cells (key.map b8).toArray 38) = W0 at HK0 hb0 hzw0 ⊢
    refine (alive04_any _).mono ?_
    rintro e w1 ⟨rfl, hb1⟩
    have hz1' := hb1.size
    have HK1 := Lib.hid (HK0.out.below hb1 (by omega))
    have HB1 := Lib.hid (hb0.trans (hb1.mono (by omega)))
    clear hb0 hb1 HK0
    go_wp2_with fail
    go_ret
    exact ⟨rfl, HB1.out⟩
  have m1 : n1 ≤ 500 := by omega
  have m2 : n2 ≤ 500 := by omega
  obtain ⟨Y, hY⟩ : ∃ Y, Y = (markV key (xs ++ ys)).map b8 := ⟨_, rfl⟩
  obtain ⟨N, hN⟩ : ∃ N, N = n1 + n2 := ⟨_, rfl⟩
  have hNb : N ≤ 1000 := by omega
  have hNl : (xs ++ ys).length = N := by rw [List.length_append, H1.out, H2.out]; exact hN.symm
  have hey : ∀ w, (binOp .eql 60 (.agg Y.toArray) (.agg Y.toArray)).run Try.prog w = .ok (.bool true) w := fun w => by
    rw [hY, run_eql_b8 w 60 5 16 Try.underlying60 Try.underlying5 sizeU8s _ _ (markV_len _ _) (markV_len _ _), beq_self_eq_true]
  obtain ⟨Z, hZ⟩ : ∃ Z, Z = key.map b8 := ⟨_, rfl⟩
  have hZl : Z.length = 32 := by rw [hZ, List.length_map, HK.out]
  go_enter Try.func9, Try.ntmps9
  go_wp2_with fail
  generalize W.alloc (.cells (key.map b8).toArray 38) = W0 at HK0 hb0 hzw0 ⊢
  refine (alive04_any _).mono ?_
  rintro e w1 ⟨rfl, hb1⟩
  have hz1' := hb1.size
  have HK1 := Lib.hid (HK0.out.below hb1 (by omega))
  have HB1 := Lib.hid (hb0.trans (hb1.mono (by omega)))
  clear hb0 hb1 HK0
  go_wp2_with fail
  refine (copy_any c1 (R1.out.below HB1.out) HB1.out.size H1.out (by omega)).mono ?_
  rintro e w5 ⟨v5, rfl, hc5, hb5⟩
  obtain ⟨g5, k5, rfl, hg5, hg5l, -, -⟩ := hc5.shape' H1.out
  have hsz5 := hb5.size
  have HC5 := Lib.hid hc5
  have HB5 := Lib.hid (HB1.out.trans (hb5.mono HB1.out.size))
  have HR5 := Lib.hid (show ∀ W', Below w5.heap.size w5 W' → W'.rangeAt W.heap.size 0 Z from fun W' hb => by
    rw [hZ]; exact ((HK1.out.below hb5 (by omega)).below hb (by omega)).whole)
  have hk5 := HR5.out _ (Below.refl _ w5).drew
  have hu := Try.underlying38
  have hi32 : (Try.prog.info? 38).map (·.size) = some Z.length := by rw [hZl]; exact size32r
  have hwz := HB5.out.size
  have HMk := Lib.hid (show ∀ (W' : World) (g : Nat), Below w5.heap.size w5 W' → PAs W' g [(some ⟨g5, 0, none⟩, n1, k5), (A2, n2, c2)] → Calls Try.prog 32 #[.agg Z.toArray, .slice (some ⟨g, 0, none⟩) 2 2] W' fun e w' => e = .returned (.agg Y.toArray) ∧ Below W'.heap.size W' w' from fun W' g hb hp => by
    have hb' := HB5.out.trans (hb.mono hwz)
    have h := mark_any W' key HK.out W'.heap.size g 0 2 2 _ (pts_pas (ps := [((some ⟨g5, 0, none⟩, n1, k5), xs), ((A2, n2, c2), ys)]) hp
      (by simpa using ⟨(HC5.out.below hb (Nat.le_refl _)).own.rd, (R2.out.below hb').more hb'.size⟩) (by simpa using ⟨H1.out.symm, H2.out.symm⟩)) (Nat.le_refl _) rfl (by omega) (xs ++ ys) (by simp) (by rw [hNl]; omega)
    rw [← hZ, ← hY] at h
    exact h)
  have HQ := Lib.hid (show ∀ (W' : World) (A : Option Addr) (c : Nat), Rd b8 W' W'.heap.size A (xs ++ ys) → N ≤ c → Calls Try.prog 33 #[.agg Z.toArray, .slice A N c] W' fun e w' => e = .returned (.agg Y.toArray) ∧ Below W'.heap.size W' w' from fun W' A c hr hc => by
    have h := refMark_any W' key HK.out W'.heap.size N c A (xs ++ ys) hr (Nat.le_refl _) hNl.symm hc (by omega)
    rw [← hZ, ← hY] at h
    exact h)
  have HNl := Lib.hid hNl
  clear hc5 hb5 hZ hZl hNl hN hY
  go_wp2_with fail
  --{R6
  refine wp_region_noPanic ?_
  refine wp_region_held_drew (S := fun w' => w'.rangeAt W.heap.size 0 Z) (by kernel_rfl) hk5 (fun hS => ?_)
  refine wpAnyH_take (i := 0) (oi := { dst := some 20, op := _, type := _, pos := _, after := _, guard := _ }) (v := .agg Z.toArray) rfl (by kernel_rfl) (by kernel_rfl) (by kernel_rfl) (fun _ _ _ h => h) (yieldsIf_load_mid (by rfl) 38 (.tmp 3) rfl W.heap.size 0 rfl Z _ (fun _ h => h) hu rfl hi32) hS ?_
  try simp only [Act.put, List.setIfInBounds_toArray, List.set_cons_zero, List.set_cons_succ]
  refine wpAnyH_take (i := 5) (oi := { dst := some 25, op := _, type := _, pos := _, after := _, guard := _ }) (v := .agg Z.toArray) rfl (by kernel_rfl) (by kernel_rfl) (by kernel_rfl) (fun _ _ _ h => h) (yieldsIf_load_mid (by rfl) 38 (.tmp 3) rfl W.heap.size 0 rfl Z _ (fun _ h => h) hu rfl hi32) hS ?_
  try simp only [Act.put, List.setIfInBounds_toArray, List.set_cons_zero, List.set_cons_succ]
  refine wpAnyH_take (i := 1) (oi := { dst := some 21, op := _, type := _, pos := _, after := _, guard := _ }) (v := .slice (some ⟨g5, 0, none⟩) n1 k5) rfl (by kernel_rfl) (by kernel_rfl) (by kernel_rfl) (fun _ _ _ h => h) (Or.inl ⟨by rfl, ?_⟩) hS ?_
  · intro w' hw'
    go_simp
  try simp only [Act.put, List.setIfInBounds_toArray, List.set_cons_zero, List.set_cons_succ]
  refine wpAnyH_take (i := 2) (oi := { dst := some 22, op := _, type := _, pos := _, after := _, guard := _ }) (v := .slice A2 n2 c2) rfl (by kernel_rfl) (by kernel_rfl) (by kernel_rfl) (fun _ _ _ h => h) (Or.inl ⟨by rfl, ?_⟩) hS ?_
  · intro w' hw'
    go_simp
  try simp only [Act.put, List.setIfInBounds_toArray, List.set_cons_zero, List.set_cons_succ]
  refine wpAnyH_take (i := 7) (oi := { dst := some 27, op := _, type := _, pos := _, after := _, guard := _ }) (v := .slice A1 n1 c1) rfl (by kernel_rfl) (by kernel_rfl) (by kernel_rfl) (fun _ _ _ h => h) (Or.inl ⟨by rfl, ?_⟩) hS ?_
  · intro w' hw'
    go_simp
  try simp only [Act.put, List.setIfInBounds_toArray, List.set_cons_zero, List.set_cons_succ]
  refine wpAnyH_take (i := 9) (oi := { dst := some 29, op := _, type := _, pos := _, after := _, guard := _ }) (v := .slice A2 n2 c2) rfl (by kernel_rfl) (by kernel_rfl) (by kernel_rfl) (fun _ _ _ h => h) (Or.inl ⟨by rfl, ?_⟩) hS ?_
  · intro w' hw'
    go_simp
  try simp only [Act.put, List.setIfInBounds_toArray, List.set_cons_zero, List.set_cons_succ]
  refine wpAnyH_ready (rs := [3, 6]) (by kernel_rfl) (by simp) (AllReadyH.cons (o := { dst := some 23, op := _, type := _, pos := _, after := _, guard := _ }) rfl (fun K' hK => ?_) (AllReadyH.cons (o := { dst := some 26, op := _, type := _, pos := _, after := _, guard := _ }) rfl (fun K' hK => ?_) AllReadyH.nil))
  ·
    go_simp
    refine hK.out _ _ (HR5.out _ (by (repeat (first | exact Below.refl _ _ | exact Below.refl _ _ | refine bel_al ?_ | refine bel_dr ?_)))) (fun hS => ?_)
    clear hK K'
    try simp only [Act.put, List.setIfInBounds_toArray, List.set_cons_zero, List.set_cons_succ]
    refine wpAnyH_ready (rs := [4, 6]) (by kernel_rfl) (by simp) (AllReadyH.cons (o := { dst := some 24, op := _, type := _, pos := _, after := _, guard := _ }) rfl (fun K' hK => ?_) (AllReadyH.cons (o := { dst := some 26, op := _, type := _, pos := _, after := _, guard := _ }) rfl (fun K' hK => ?_) AllReadyH.nil))
    ·
      go_simp
      go_at_call 32
      refine (HMk.out _ _ ?_ ?_).mono ?_
      focus ((repeat (first | exact Below.refl _ _ | refine bel_al ?_ | refine bel_dr ?_)))
      focus (repeat (first | (refine pas_new ?_ ?_; (focus (first | rfl | (simp; done))); rfl) | refine pas_al ?_ | refine pas_dr ?_))
      rintro e w6 ⟨rfl, hb6⟩
      have HX6 := Lib.hid (show Below w5.heap.size w5 w6 from below_step (by (repeat (first | exact Below.refl _ _ | refine bel_al ?_ | refine bel_dr ?_))) hb6)
      have hs6 := HX6.out.size
      clear hb6
      refine hK.out _ _ (HR5.out _ (by (repeat (first | exact HX6.out | exact Below.refl _ _ | refine bel_al ?_ | refine bel_dr ?_)))) (fun hS => ?_)
      clear hK K'
      try simp only [Act.put, List.setIfInBounds_toArray, List.set_cons_zero, List.set_cons_succ]
      refine wpAnyH_ready (rs := [6]) (by kernel_rfl) (by simp) (AllReadyH.cons (o := { dst := some 26, op := _, type := _, pos := _, after := _, guard := _ }) rfl (fun K' hK => ?_) AllReadyH.nil)
      go_simp
      refine hK.out _ _ (HR5.out _ (by (repeat (first | exact HX6.out | exact Below.refl _ _ | refine bel_al ?_ | refine bel_dr ?_)))) (fun hS => ?_)
      clear hK K'
      try simp only [Act.put, List.setIfInBounds_toArray, List.set_cons_zero, List.set_cons_succ]
      have HO6 := Lib.hid (own_pe (pe_new (w := w6) rfl) (show w5.heap.size ≤ _ by omega))
      have HY6 := Lib.hid (HX6.out.alloc HX6.out.size (.cells #[] 5))
      refine wpAnyH_ready (rs := [8]) (by kernel_rfl) (by simp) (AllReadyH.cons (o := { dst := some 28, op := _, type := _, pos := _, after := _, guard := _ }) rfl (fun K' hK => ?_) AllReadyH.nil)
      refine step_append_rd rfl (.tmp 26) (.tmp 27) 22 rfl b8_one w5.heap.size 5 i0 _ 1 Try.underlying22 hi0 hz0 hz1 hz2 rfl _ _ rfl HO6.out W.heap.size A1 n1 c1 xs rfl H1.out.symm (R1.out.below (HB5.out.trans (Below.mono HY6.out hwz))) (by have := H1.out; simp only [maxLen, List.length_nil]; omega) (by have := H1.out; simp only [List.length_nil]; omega) (by first | omega | (simp; omega)) ?_
      intro v7 w7 hown7 hg7 hbb7
      obtain ⟨A7, k7, rfl, -, -, -, -⟩ := hown7.shape' (n := n1) (by simp [H1.out])
      have HO7 := Lib.hid (hown7.cast (List.nil_append _))
      have HX7 := Lib.hid (hbb7 _ _ (Nat.le_refl _) HY6.out)
      have hs7 := HX7.out.size
      clear hown7 hg7 hbb7
      refine hK.out _ _ (HR5.out _ (by (repeat (first | exact HX7.out | exact Below.refl _ _ | refine bel_al ?_ | refine bel_dr ?_)))) (fun hS => ?_)
      clear hK K'
      try simp only [Act.put, List.setIfInBounds_toArray, List.set_cons_zero, List.set_cons_succ]
      refine wpAnyH_ready (rs := [10]) (by kernel_rfl) (by simp) (AllReadyH.cons (o := { dst := some 30, op := _, type := _, pos := _, after := _, guard := _ }) rfl (fun K' hK => ?_) AllReadyH.nil)
      refine step_append_rd rfl (.tmp 28) (.tmp 29) 22 rfl b8_one w5.heap.size 5 i0 _ 1 Try.underlying22 hi0 hz0 hz1 hz2 rfl _ _ rfl HO7.out W.heap.size A2 n2 c2 ys rfl H2.out.symm (R2.out.below (HB5.out.trans (HX7.out.mono hwz))) (by have := H1.out; have := H2.out; simp only [maxLen]; omega) (by have := H1.out; have := H2.out; omega) hs7 ?_
      intro v8 w8 hown8 hg8 hbb8
      obtain ⟨A8, k8, rfl, hr8, -, hk8, -⟩ := hown8.shape' (n := N) HNl.out
      have HR8 := Lib.hid hr8
      have HX8 := Lib.hid (hbb8 _ _ (Nat.le_refl _) HX7.out)
      clear hown8 hg8 hbb8 hr8
      refine hK.out _ _ (HR5.out _ (by (repeat (first | exact HX8.out | exact Below.refl _ _ | refine bel_al ?_ | refine bel_dr ?_)))) (fun hS => ?_)
      clear hK K'
      try simp only [Act.put, List.setIfInBounds_toArray, List.set_cons_zero, List.set_cons_succ]
      refine wpAnyH_ready (rs := [11]) (by kernel_rfl) (by simp) (AllReadyH.cons (o := { dst := some 31, op := _, type := _, pos := _, after := _, guard := _ }) rfl (fun K' hK => ?_) AllReadyH.nil)
      go_simp
      go_at_call 33
      refine (HQ.out w8 A8 k8 HR8.out hk8).mono ?_
      rintro e w9 ⟨rfl, hb9⟩
      have HX9 := Lib.hid (HX8.out.trans (hb9.mono HX8.out.size))
      clear hb9
      refine hK.out _ _ (HR5.out _ (by (repeat (first | exact HX9.out | exact Below.refl _ _ | refine bel_al ?_ | refine bel_dr ?_)))) (fun hS => ?_)
      clear hK K'
      try simp only [Act.put, List.setIfInBounds_toArray, List.set_cons_zero, List.set_cons_succ]
      refine wpAnyH_take (i := 12) (oi := { dst := some 32, op := _, type := _, pos := _, after := _, guard := _ }) (v := .bool true) rfl (by kernel_rfl) (by kernel_rfl) (by kernel_rfl) (fun _ _ _ h => h) (Or.inl ⟨by rfl, ?_⟩) hS ?_
      · intro w' hw'
        go_simp
      try simp only [Act.put, List.setIfInBounds_toArray, List.set_cons_zero, List.set_cons_succ]
      refine wpAnyH_take (i := 13) (oi := { dst := some 33, op := _, type := _, pos := _, after := _, guard := _ }) (v := .bool true) rfl (by kernel_rfl) (by kernel_rfl) (by kernel_rfl) (fun _ _ _ h => h) (Or.inl ⟨by rfl, ?_⟩) hS ?_
      · intro w' hw'
        go_simp
      try simp only [Act.put, List.setIfInBounds_toArray, List.set_cons_zero, List.set_cons_succ]
      refine wpAnyH_take (i := 14) (oi := { dst := some 34, op := _, type := _, pos := _, after := _, guard := _ }) (v := .slice (some ⟨g5, 0, none⟩) n1 k5) rfl (by kernel_rfl) (by kernel_rfl) (by kernel_rfl) (fun _ _ _ h => h) (Or.inl ⟨by rfl, ?_⟩) hS ?_
      · intro w' hw'
        go_simp
      try simp only [Act.put, List.setIfInBounds_toArray, List.set_cons_zero, List.set_cons_succ]
      refine wpAnyH_take (i := 15) (oi := { dst := some 35, op := _, type := _, pos := _, after := _, guard := _ }) (v := .slice A1 n1 c1) rfl (by kernel_rfl) (by kernel_rfl) (by kernel_rfl) (fun _ _ _ h => h) (Or.inl ⟨by rfl, ?_⟩) hS ?_
      · intro w' hw'
        go_simp
      try simp only [Act.put, List.setIfInBounds_toArray, List.set_cons_zero, List.set_cons_succ]
      refine wpAnyH_ready (rs := [16]) (by kernel_rfl) (by simp) (AllReadyH.cons (o := { dst := some 36, op := _, type := _, pos := _, after := _, guard := _ }) rfl (fun K' hK => ?_) AllReadyH.nil)
      go_simp
      go_at_call 30
      refine (kept_any c1 (HC5.out.below HX9.out (Nat.le_refl _)) (R1.out.below (HB5.out.trans (HX9.out.mono hwz))) H1.out rfl (by omega)).mono ?_
      rintro e w' ⟨rfl, rfl⟩
      refine hK.out _ _ (HR5.out _ (by (repeat (first | exact HX9.out | exact Below.refl _ _ | refine bel_al ?_ | refine bel_dr ?_)))) (fun hS => ?_)
      clear hK K'
      try simp only [Act.put, List.setIfInBounds_toArray, List.set_cons_zero, List.set_cons_succ]
      refine wpAnyH_take (i := 17) (oi := { dst := some 37, op := _, type := _, pos := _, after := _, guard := _ }) (v := .bool true) rfl (by kernel_rfl) (by kernel_rfl) (by kernel_rfl) (fun _ _ _ h => h) (Or.inl ⟨by rfl, ?_⟩) hS ?_
      · intro w' hw'
        go_simp
      try simp only [Act.put, List.setIfInBounds_toArray, List.set_cons_zero, List.set_cons_succ]
      refine wpAnyH_ready (rs := [18]) (by kernel_rfl) (by simp) (AllReadyH.cons (o := { dst := some 6, op := _, type := _, pos := _, after := _, guard := _ }) rfl (fun K' hK => ?_) AllReadyH.nil)
      go_simp
      refine hK.out _ _ (HR5.out _ (by (repeat (first | exact HX9.out | exact Below.refl _ _ | refine bel_al ?_ | refine bel_dr ?_)))) (fun hS => ?_)
      clear hK K'
      try simp only [Act.put, List.setIfInBounds_toArray, List.set_cons_zero, List.set_cons_succ]
      refine wpAnyH_done (by kernel_rfl) ?_ _
      refine NoPanic.normal ?_
      go_wp2_with fail
      go_ret
      exact ⟨rfl, HB5.out.trans (HX9.out.mono hwz)⟩
    ·
      go_simp
      refine hK.out _ _ (HR5.out _ (by (repeat (first | exact Below.refl _ _ | exact Below.refl _ _ | refine bel_al ?_ | refine bel_dr ?_)))) (fun hS => ?_)
      clear hK K'
      try simp only [Act.put, List.setIfInBounds_toArray, List.set_cons_zero, List.set_cons_succ]
      refine wpAnyH_ready (rs := [4]) (by kernel_rfl) (by simp) (AllReadyH.cons (o := { dst := some 24, op := _, type := _, pos := _, after := _, guard := _ }) rfl (fun K' hK => ?_) AllReadyH.nil)
      go_simp
      go_at_call 32
      refine (HMk.out _ _ ?_ ?_).mono ?_
      focus ((repeat (first | exact Below.refl _ _ | refine bel_al ?_ | refine bel_dr ?_)))
      focus (repeat (first | (refine pas_new ?_ ?_; (focus (first | rfl | (simp; done))); rfl) | refine pas_al ?_ | refine pas_dr ?_))
      rintro e w6 ⟨rfl, hb6⟩
      have HX6 := Lib.hid (show Below w5.heap.size w5 w6 from below_step (by (repeat (first | exact Below.refl _ _ | refine bel_al ?_ | refine bel_dr ?_))) hb6)
      have hs6 := HX6.out.size
      have HE : Hid (PE w6 (w5.heap.size + 1)) := by
        refine Lib.hid (pe_bel hb6 ?_)
        simp only [pe_newS, pe_alS, pe_drS, World.size_alloc, World.size_drew]
      clear hb6
      refine hK.out _ _ (HR5.out _ (by (repeat (first | exact HX6.out | exact Below.refl _ _ | refine bel_al ?_ | refine bel_dr ?_)))) (fun hS => ?_)
      clear hK K'
      try simp only [Act.put, List.setIfInBounds_toArray, List.set_cons_zero, List.set_cons_succ]
      have HO6 := Lib.hid (own_pe HE.out (show w5.heap.size ≤ _ by omega))
      have HY6 := Lib.hid (HX6.out)
      refine wpAnyH_ready (rs := [8]) (by kernel_rfl) (by simp) (AllReadyH.cons (o := { dst := some 28, op := _, type := _, pos := _, after := _, guard := _ }) rfl (fun K' hK => ?_) AllReadyH.nil)
      refine step_append_rd rfl (.tmp 26) (.tmp 27) 22 rfl b8_one w5.heap.size 5 i0 _ 1 Try.underlying22 hi0 hz0 hz1 hz2 rfl _ _ rfl HO6.out W.heap.size A1 n1 c1 xs rfl H1.out.symm (R1.out.below (HB5.out.trans (Below.mono HY6.out hwz))) (by have := H1.out; simp only [maxLen, List.length_nil]; omega) (by have := H1.out; simp only [List.length_nil]; omega) (by first | omega | (simp; omega)) ?_
      intro v7 w7 hown7 hg7 hbb7
      obtain ⟨A7, k7, rfl, -, -, -, -⟩ := hown7.shape' (n := n1) (by simp [H1.out])
      have HO7 := Lib.hid (hown7.cast (List.nil_append _))
      have HX7 := Lib.hid (hbb7 _ _ (Nat.le_refl _) HY6.out)
      have hs7 := HX7.out.size
      clear hown7 hg7 hbb7
      refine hK.out _ _ (HR5.out _ (by (repeat (first | exact HX7.out | exact Below.refl _ _ | refine bel_al ?_ | refine bel_dr ?_)))) (fun hS => ?_)
      clear hK K'
      try simp only [Act.put, List.setIfInBounds_toArray, List.set_cons_zero, List.set_cons_succ]
      refine wpAnyH_ready (rs := [10]) (by kernel_rfl) (by simp) (AllReadyH.cons (o := { dst := some 30, op := _, type := _, pos := _, after := _, guard := _ }) rfl (fun K' hK => ?_) AllReadyH.nil)
      refine step_append_rd rfl (.tmp 28) (.tmp 29) 22 rfl b8_one w5.heap.size 5 i0 _ 1 Try.underlying22 hi0 hz0 hz1 hz2 rfl _ _ rfl HO7.out W.heap.size A2 n2 c2 ys rfl H2.out.symm (R2.out.below (HB5.out.trans (HX7.out.mono hwz))) (by have := H1.out; have := H2.out; simp only [maxLen]; omega) (by have := H1.out; have := H2.out; omega) hs7 ?_
      intro v8 w8 hown8 hg8 hbb8
      obtain ⟨A8, k8, rfl, hr8, -, hk8, -⟩ := hown8.shape' (n := N) HNl.out
      have HR8 := Lib.hid hr8
      have HX8 := Lib.hid (hbb8 _ _ (Nat.le_refl _) HX7.out)
      clear hown8 hg8 hbb8 hr8
      refine hK.out _ _ (HR5.out _ (by (repeat (first | exact HX8.out | exact Below.refl _ _ | refine bel_al ?_ | refine bel_dr ?_)))) (fun hS => ?_)
      clear hK K'
      try simp only [Act.put, List.setIfInBounds_toArray, List.set_cons_zero, List.set_cons_succ]
      refine wpAnyH_ready (rs := [11]) (by kernel_rfl) (by simp) (AllReadyH.cons (o := { dst := some 31, op := _, type := _, pos := _, after := _, guard := _ }) rfl (fun K' hK => ?_) AllReadyH.nil)
      go_simp
      go_at_call 33
      refine (HQ.out w8 A8 k8 HR8.out hk8).mono ?_
      rintro e w9 ⟨rfl, hb9⟩
      have HX9 := Lib.hid (HX8.out.trans (hb9.mono HX8.out.size))
      clear hb9
      refine hK.out _ _ (HR5.out _ (by (repeat (first | exact HX9.out | exact Below.refl _ _ | refine bel_al ?_ | refine bel_dr ?_)))) (fun hS => ?_)
      clear hK K'
      try simp only [Act.put, List.setIfInBounds_toArray, List.set_cons_zero, List.set_cons_succ]
      refine wpAnyH_take (i := 12) (oi := { dst := some 32, op := _, type := _, pos := _, after := _, guard := _ }) (v := .bool true) rfl (by kernel_rfl) (by kernel_rfl) (by kernel_rfl) (fun _ _ _ h => h) (Or.inl ⟨by rfl, ?_⟩) hS ?_
      · intro w' hw'
        go_simp
      try simp only [Act.put, List.setIfInBounds_toArray, List.set_cons_zero, List.set_cons_succ]
      refine wpAnyH_take (i := 13) (oi := { dst := some 33, op := _, type := _, pos := _, after := _, guard := _ }) (v := .bool true) rfl (by kernel_rfl) (by kernel_rfl) (by kernel_rfl) (fun _ _ _ h => h) (Or.inl ⟨by rfl, ?_⟩) hS ?_
      · intro w' hw'
        go_simp
      try simp only [Act.put, List.setIfInBounds_toArray, List.set_cons_zero, List.set_cons_succ]
      refine wpAnyH_take (i := 14) (oi := { dst := some 34, op := _, type := _, pos := _, after := _, guard := _ }) (v := .slice (some ⟨g5, 0, none⟩) n1 k5) rfl (by kernel_rfl) (by kernel_rfl) (by kernel_rfl) (fun _ _ _ h => h) (Or.inl ⟨by rfl, ?_⟩) hS ?_
      · intro w' hw'
        go_simp
      try simp only [Act.put, List.setIfInBounds_toArray, List.set_cons_zero, List.set_cons_succ]
      refine wpAnyH_take (i := 15) (oi := { dst := some 35, op := _, type := _, pos := _, after := _, guard := _ }) (v := .slice A1 n1 c1) rfl (by kernel_rfl) (by kernel_rfl) (by kernel_rfl) (fun _ _ _ h => h) (Or.inl ⟨by rfl, ?_⟩) hS ?_
      · intro w' hw'
        go_simp
      try simp only [Act.put, List.setIfInBounds_toArray, List.set_cons_zero, List.set_cons_succ]
      refine wpAnyH_ready (rs := [16]) (by kernel_rfl) (by simp) (AllReadyH.cons (o := { dst := some 36, op := _, type := _, pos := _, after := _, guard := _ }) rfl (fun K' hK => ?_) AllReadyH.nil)
      go_simp
      go_at_call 30
      refine (kept_any c1 (HC5.out.below HX9.out (Nat.le_refl _)) (R1.out.below (HB5.out.trans (HX9.out.mono hwz))) H1.out rfl (by omega)).mono ?_
      rintro e w' ⟨rfl, rfl⟩
      refine hK.out _ _ (HR5.out _ (by (repeat (first | exact HX9.out | exact Below.refl _ _ | refine bel_al ?_ | refine bel_dr ?_)))) (fun hS => ?_)
      clear hK K'
      try simp only [Act.put, List.setIfInBounds_toArray, List.set_cons_zero, List.set_cons_succ]
      refine wpAnyH_take (i := 17) (oi := { dst := some 37, op := _, type := _, pos := _, after := _, guard := _ }) (v := .bool true) rfl (by kernel_rfl) (by kernel_rfl) (by kernel_rfl) (fun _ _ _ h => h) (Or.inl ⟨by rfl, ?_⟩) hS ?_
      · intro w' hw'
        go_simp
      try simp only [Act.put, List.setIfInBounds_toArray, List.set_cons_zero, List.set_cons_succ]
      refine wpAnyH_ready (rs := [18]) (by kernel_rfl) (by simp) (AllReadyH.cons (o := { dst := some 6, op := _, type := _, pos := _, after := _, guard := _ }) rfl (fun K' hK => ?_) AllReadyH.nil)
      go_simp
      refine hK.out _ _ (HR5.out _ (by (repeat (first | exact HX9.out | exact Below.refl _ _ | refine bel_al ?_ | refine bel_dr ?_)))) (fun hS => ?_)
      clear hK K'
      try simp only [Act.put, List.setIfInBounds_toArray, List.set_cons_zero, List.set_cons_succ]
      refine wpAnyH_done (by kernel_rfl) ?_ _
      refine NoPanic.normal ?_
      go_wp2_with fail
      go_ret
      exact ⟨rfl, HB5.out.trans (HX9.out.mono hwz)⟩
  ·
    go_simp
    refine hK.out _ _ (HR5.out _ (by (repeat (first | exact Below.refl _ _ | exact Below.refl _ _ | refine bel_al ?_ | refine bel_dr ?_)))) (fun hS => ?_)
    clear hK K'
    try simp only [Act.put, List.setIfInBounds_toArray, List.set_cons_zero, List.set_cons_succ]
    refine wpAnyH_ready (rs := [3]) (by kernel_rfl) (by simp) (AllReadyH.cons (o := { dst := some 23, op := _, type := _, pos := _, after := _, guard := _ }) rfl (fun K' hK => ?_) AllReadyH.nil)
    go_simp
    refine hK.out _ _ (HR5.out _ (by (repeat (first | exact Below.refl _ _ | exact Below.refl _ _ | refine bel_al ?_ | refine bel_dr ?_)))) (fun hS => ?_)
    clear hK K'
    try simp only [Act.put, List.setIfInBounds_toArray, List.set_cons_zero, List.set_cons_succ]
    refine wpAnyH_ready (rs := [4]) (by kernel_rfl) (by simp) (AllReadyH.cons (o := { dst := some 24, op := _, type := _, pos := _, after := _, guard := _ }) rfl (fun K' hK => ?_) AllReadyH.nil)
    go_simp
    go_at_call 32
    refine (HMk.out _ _ ?_ ?_).mono ?_
    focus ((repeat (first | exact Below.refl _ _ | refine bel_al ?_ | refine bel_dr ?_)))
    focus (repeat (first | (refine pas_new ?_ ?_; (focus (first | rfl | (simp; done))); rfl) | refine pas_al ?_ | refine pas_dr ?_))
    rintro e w6 ⟨rfl, hb6⟩
    have HX6 := Lib.hid (show Below w5.heap.size w5 w6 from below_step (by (repeat (first | exact Below.refl _ _ | refine bel_al ?_ | refine bel_dr ?_))) hb6)
    have hs6 := HX6.out.size
    have HE : Hid (PE w6 (w5.heap.size)) := by
      refine Lib.hid (pe_bel hb6 ?_)
      simp only [pe_newS, pe_alS, pe_drS, World.size_alloc, World.size_drew]
    clear hb6
    refine hK.out _ _ (HR5.out _ (by (repeat (first | exact HX6.out | exact Below.refl _ _ | refine bel_al ?_ | refine bel_dr ?_)))) (fun hS => ?_)
    clear hK K'
    try simp only [Act.put, List.setIfInBounds_toArray, List.set_cons_zero, List.set_cons_succ]
    have HO6 := Lib.hid (own_pe HE.out (show w5.heap.size ≤ _ by omega))
    have HY6 := Lib.hid (HX6.out)
    refine wpAnyH_ready (rs := [8]) (by kernel_rfl) (by simp) (AllReadyH.cons (o := { dst := some 28, op := _, type := _, pos := _, after := _, guard := _ }) rfl (fun K' hK => ?_) AllReadyH.nil)
    refine step_append_rd rfl (.tmp 26) (.tmp 27) 22 rfl b8_one w5.heap.size 5 i0 _ 1 Try.underlying22 hi0 hz0 hz1 hz2 rfl _ _ rfl HO6.out W.heap.size A1 n1 c1 xs rfl H1.out.symm (R1.out.below (HB5.out.trans (Below.mono HY6.out hwz))) (by have := H1.out; simp only [maxLen, List.length_nil]; omega) (by have := H1.out; simp only [List.length_nil]; omega) (by first | omega | (simp; omega)) ?_
    intro v7 w7 hown7 hg7 hbb7
    obtain ⟨A7, k7, rfl, -, -, -, -⟩ := hown7.shape' (n := n1) (by simp [H1.out])
    have HO7 := Lib.hid (hown7.cast (List.nil_append _))
    have HX7 := Lib.hid (hbb7 _ _ (Nat.le_refl _) HY6.out)
    have hs7 := HX7.out.size
    clear hown7 hg7 hbb7
    refine hK.out _ _ (HR5.out _ (by (repeat (first | exact HX7.out | exact Below.refl _ _ | refine bel_al ?_ | refine bel_dr ?_)))) (fun hS => ?_)
    clear hK K'
    try simp only [Act.put, List.setIfInBounds_toArray, List.set_cons_zero, List.set_cons_succ]
    refine wpAnyH_ready (rs := [10]) (by kernel_rfl) (by simp) (AllReadyH.cons (o := { dst := some 30, op := _, type := _, pos := _, after := _, guard := _ }) rfl (fun K' hK => ?_) AllReadyH.nil)
    refine step_append_rd rfl (.tmp 28) (.tmp 29) 22 rfl b8_one w5.heap.size 5 i0 _ 1 Try.underlying22 hi0 hz0 hz1 hz2 rfl _ _ rfl HO7.out W.heap.size A2 n2 c2 ys rfl H2.out.symm (R2.out.below (HB5.out.trans (HX7.out.mono hwz))) (by have := H1.out; have := H2.out; simp only [maxLen]; omega) (by have := H1.out; have := H2.out; omega) hs7 ?_
    intro v8 w8 hown8 hg8 hbb8
    obtain ⟨A8, k8, rfl, hr8, -, hk8, -⟩ := hown8.shape' (n := N) HNl.out
    have HR8 := Lib.hid hr8
    have HX8 := Lib.hid (hbb8 _ _ (Nat.le_refl _) HX7.out)
    clear hown8 hg8 hbb8 hr8
    refine hK.out _ _ (HR5.out _ (by (repeat (first | exact HX8.out | exact Below.refl _ _ | refine bel_al ?_ | refine bel_dr ?_)))) (fun hS => ?_)
    clear hK K'
    try simp only [Act.put, List.setIfInBounds_toArray, List.set_cons_zero, List.set_cons_succ]
    refine wpAnyH_ready (rs := [11]) (by kernel_rfl) (by simp) (AllReadyH.cons (o := { dst := some 31, op := _, type := _, pos := _, after := _, guard := _ }) rfl (fun K' hK => ?_) AllReadyH.nil)
    go_simp
    go_at_call 33
    refine (HQ.out w8 A8 k8 HR8.out hk8).mono ?_
    rintro e w9 ⟨rfl, hb9⟩
    have HX9 := Lib.hid (HX8.out.trans (hb9.mono HX8.out.size))
    clear hb9
    refine hK.out _ _ (HR5.out _ (by (repeat (first | exact HX9.out | exact Below.refl _ _ | refine bel_al ?_ | refine bel_dr ?_)))) (fun hS => ?_)
    clear hK K'
    try simp only [Act.put, List.setIfInBounds_toArray, List.set_cons_zero, List.set_cons_succ]
    refine wpAnyH_take (i := 12) (oi := { dst := some 32, op := _, type := _, pos := _, after := _, guard := _ }) (v := .bool true) rfl (by kernel_rfl) (by kernel_rfl) (by kernel_rfl) (fun _ _ _ h => h) (Or.inl ⟨by rfl, ?_⟩) hS ?_
    · intro w' hw'
      go_simp
    try simp only [Act.put, List.setIfInBounds_toArray, List.set_cons_zero, List.set_cons_succ]
    refine wpAnyH_take (i := 13) (oi := { dst := some 33, op := _, type := _, pos := _, after := _, guard := _ }) (v := .bool true) rfl (by kernel_rfl) (by kernel_rfl) (by kernel_rfl) (fun _ _ _ h => h) (Or.inl ⟨by rfl, ?_⟩) hS ?_
    · intro w' hw'
      go_simp
    try simp only [Act.put, List.setIfInBounds_toArray, List.set_cons_zero, List.set_cons_succ]
    refine wpAnyH_take (i := 14) (oi := { dst := some 34, op := _, type := _, pos := _, after := _, guard := _ }) (v := .slice (some ⟨g5, 0, none⟩) n1 k5) rfl (by kernel_rfl) (by kernel_rfl) (by kernel_rfl) (fun _ _ _ h => h) (Or.inl ⟨by rfl, ?_⟩) hS ?_
    · intro w' hw'
      go_simp
    try simp only [Act.put, List.setIfInBounds_toArray, List.set_cons_zero, List.set_cons_succ]
    refine wpAnyH_take (i := 15) (oi := { dst := some 35, op := _, type := _, pos := _, after := _, guard := _ }) (v := .slice A1 n1 c1) rfl (by kernel_rfl) (by kernel_rfl) (by kernel_rfl) (fun _ _ _ h => h) (Or.inl ⟨by rfl, ?_⟩) hS ?_
    · intro w' hw'
      go_simp
    try simp only [Act.put, List.setIfInBounds_toArray, List.set_cons_zero, List.set_cons_succ]
    refine wpAnyH_ready (rs := [16]) (by kernel_rfl) (by simp) (AllReadyH.cons (o := { dst := some 36, op := _, type := _, pos := _, after := _, guard := _ }) rfl (fun K' hK => ?_) AllReadyH.nil)
    go_simp
    go_at_call 30
    refine (kept_any c1 (HC5.out.below HX9.out (Nat.le_refl _)) (R1.out.below (HB5.out.trans (HX9.out.mono hwz))) H1.out rfl (by omega)).mono ?_
    rintro e w' ⟨rfl, rfl⟩
    refine hK.out _ _ (HR5.out _ (by (repeat (first | exact HX9.out | exact Below.refl _ _ | refine bel_al ?_ | refine bel_dr ?_)))) (fun hS => ?_)
    clear hK K'
    try simp only [Act.put, List.setIfInBounds_toArray, List.set_cons_zero, List.set_cons_succ]
    refine wpAnyH_take (i := 17) (oi := { dst := some 37, op := _, type := _, pos := _, after := _, guard := _ }) (v := .bool true) rfl (by kernel_rfl) (by kernel_rfl) (by kernel_rfl) (fun _ _ _ h => h) (Or.inl ⟨by rfl, ?_⟩) hS ?_
    · intro w' hw'
      go_simp
    try simp only [Act.put, List.setIfInBounds_toArray, List.set_cons_zero, List.set_cons_succ]
    refine wpAnyH_ready (rs := [18]) (by kernel_rfl) (by simp) (AllReadyH.cons (o := { dst := some 6, op := _, type := _, pos := _, after := _, guard := _ }) rfl (fun K' hK => ?_) AllReadyH.nil)
    go_simp
    refine hK.out _ _ (HR5.out _ (by (repeat (first | exact HX9.out | exact Below.refl _ _ | refine bel_al ?_ | refine bel_dr ?_)))) (fun hS => ?_)
    clear hK K'
    try simp only [Act.put, List.setIfInBounds_toArray, List.set_cons_zero, List.set_cons_succ]
    refine wpAnyH_done (by kernel_rfl) ?_ _
    refine NoPanic.normal ?_
    go_wp2_with fail
    go_ret
    exact ⟨rfl, HB5.out.trans (HX9.out.mono hwz)⟩
  --}R6
end Go.Proofs.Ytgcpjmmiciehmaa
