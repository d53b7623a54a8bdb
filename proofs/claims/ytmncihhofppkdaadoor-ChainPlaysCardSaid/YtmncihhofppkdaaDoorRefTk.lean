/- CONTRACT: burrowref19.Take. -/
import Derived.Test.YtmncihhofppkdaaDoorRfLn
import Derived.Test.YtmncihhofppkdaaDoorTakeD
import Derived.Deep.CutRange
namespace Go.Proofs.YtmncihhofppkdaaDoor
open Go.RowKit
set_option linter.unusedVariables false
set_option linter.unusedSimpArgs false
def zeroRL : List Value := lineR (List.replicate 32 0#8) 0 (.slice none 0 0) (.slice none 0 0) 0
theorem built_zeroROnce : Tryd.prog.built 38 [] = some zeroOnce.toArray := by kernel_rfl
/-- three results: two values in their cells, and a slot -/
theorem results_blk2_tmp {P : Program} {fn : Func} {p p2 u : Tmp} {ty ty2 : TypeId} {g g2 : Nat} (h : fn.results = #[.cell p ty, .cell p2 ty2, .tmp u]) (tmps : Array Value) (w : World) (T T2 : TypeId) (cs cs2 : List Value) (d d2 : TypeDesc) (v : Value)
    (hp : tmps.getD p undef = .pointer (some ⟨g, 0, none⟩)) (hp2 : tmps.getD p2 undef = .pointer (some ⟨g2, 0, none⟩)) (hv : tmps.getD u undef = v) (hA : Blk w g T cs) (hA2 : Blk w g2 T2 cs2)
    (hu : P.underlying ty = some d) (hd : d.isRow = true) (hi : (P.info? ty).map (·.size) = some cs.length) (hu2 : P.underlying ty2 = some d2) (hd2 : d2.isRow = true) (hi2 : (P.info? ty2).map (·.size) = some cs2.length) :
    (results fn tmps).run P w = .ok (.tuple #[.agg cs.toArray, .agg cs2.toArray, v]) w := by
  subst hv
  have hp' : tmps[p]?.getD undef = .pointer (some ⟨g, 0, none⟩) := by simpa using hp
  have hp2' : tmps[p2]?.getD undef = .pointer (some ⟨g2, 0, none⟩) := by simpa using hp2
  have hl := run_loadVar_mid (P := P) w g 0 ty cs d hA.whole hu hd hi
  have hl2 := run_loadVar_mid (P := P) w g2 0 ty2 cs2 d2 hA2.whole hu2 hd2 hi2
  simp [results, h, hp', hp2', asAddr, hl, hl2]
/-- the last of the numbers' rows -/
def pickR (rs : List RO) (n : Int) : Option RO := rs.foldl (fun out o => if o.o.no = n then some o else out) none
def outC : Option RO → List Value
  | none => zeroOnce
  | some o => o.cells
theorem pickR_snoc (rs : List RO) (o : RO) (n : Int) : pickR (rs ++ [o]) n = if o.o.no = n then some o else pickR rs n := by unfold pickR; rw [List.foldl_append]; rfl
theorem pickR_fold (n : Int) : ∀ (rs : List RO) (z : OnceM) (out : Option RO), z = (out.map RO.o).getD zeroO → (rs.map RO.o).foldl (fun out o => if o.no = n then o else out) z = ((rs.foldl (fun out o => if o.o.no = n then some o else out) out).map RO.o).getD zeroO
  | [], z, out, h => h
  | r :: rs, z, out, h => by
    rw [List.map_cons, List.foldl_cons, List.foldl_cons]
    refine pickR_fold n rs _ _ ?_
    by_cases e : r.o.no = n
    · rw [if_pos e, if_pos e]; rfl
    · rw [if_neg e, if_neg e]; exact h
theorem pickR_mem (n : Int) : ∀ (rs : List RO) (out : Option RO) (r : RO), rs.foldl (fun out o => if o.o.no = n then some o else out) out = some r → (r ∈ rs ∧ r.o.no = n) ∨ out = some r
  | [], out, r, h => .inr h
  | x :: rs, out, r, h => by
    rw [List.foldl_cons] at h
    rcases pickR_mem n rs _ r h with ⟨h1, h2⟩ | h1
    · exact .inl ⟨List.mem_cons_of_mem _ h1, h2⟩
    · by_cases e : x.o.no = n
      · rw [if_pos e] at h1; injection h1 with h1; subst h1; exact .inl ⟨by simp, e⟩
      · rw [if_neg e] at h1; exact .inr h1
theorem pickR_some (n : Int) : ∀ (rs : List RO) (out : Option RO), ((∃ r ∈ rs, r.o.no = n) ∨ ∃ r, out = some r) → ∃ r, rs.foldl (fun out o => if o.o.no = n then some o else out) out = some r
  | [], out, h => by
    rcases h with ⟨r, h, -⟩ | h
    · cases h
    · exact h
  | x :: rs, out, h => by
    rw [List.foldl_cons]
    refine pickR_some n rs _ ?_
    by_cases e : x.o.no = n
    · rw [if_pos e]; exact .inr ⟨x, rfl⟩
    · rw [if_neg e]
      rcases h with ⟨r, h, hn⟩ | h
      · rcases List.mem_cons.1 h with h | h
        · subst h; exact absurd hn e
        · exact .inl ⟨r, h, hn⟩
      · exact .inr h
theorem pickR_o (rs : List RO) (n : Int) : pickO (rs.map RO.o) n = ((pickR rs n).map RO.o).getD zeroO ∧ (∀ r, pickR rs n = some r → r ∈ rs ∧ r.o.no = n) ∧ ((∃ r ∈ rs, r.o.no = n) → ∃ r, pickR rs n = some r) :=
  ⟨pickR_fold n rs zeroO none rfl, fun r h => (pickR_mem n rs none r h).resolve_right (fun e => by cases e), fun h => pickR_some n rs none (.inl h)⟩
/-- what is taken is among what is held and what is come to -/
theorem heldTo_has {l : LineM} (k : LOK l) {n : Int} (hE : takeE l n = 0) : ∃ o ∈ heldTo l n, o.no = n := by
  obtain ⟨n0, n1, nh, nl, na, nf⟩ := takeE_zero hE
  have hk := k.hi
  have hl := k.lowp
  by_cases hlo : n < l.place
  · obtain ⟨o, ho, he⟩ := k.all n nl hlo na (by omega)
    exact ⟨o, List.mem_append_left _ ho, he⟩
  · refine ⟨ofL (linkAt l.link (n - l.place).toNat) (l.place + ((n - l.place).toNat : Int)), List.mem_append_right _ ((mem_runL _ _ _ _).2 ⟨(n - l.place).toNat, by omega, rfl⟩), ?_⟩
    rw [ofL_no]; omega
/-- what Take answers, and what it leaves -/
def TakePost (w w' : World) (x : RL) (n : Int) (e : Ending) : Prop :=
  (takeE x.l n ≠ 0 → e = .returned (.tuple #[.agg zeroOnce.toArray, .agg x.cells.toArray, .int .i64 (takeE x.l n : Int)])) ∧
  (takeE x.l n = 0 → ∃ (g off c : Nat) (y : RL), e = .returned (.tuple #[.agg (onceC n (takeO x.l n).key (.slice (some ⟨g, off, none⟩) 12 c)).toArray, .agg y.cells.toArray, .int .i64 0]) ∧ y.l = takeL x.l n ∧ y.At w' ∧ RO.At w' ⟨takeO x.l n, g, off, c⟩ ∧
    (∀ o ∈ y.rs, o.r ∈ x.rs.map RO.r ∨ w.heap.size ≤ o.r) ∧ (∀ (b off : Nat), y.hA = some ⟨b, off, none⟩ → w.heap.size ≤ b) ∧ (∀ (b off : Nat), y.aA = some ⟨b, off, none⟩ → w.heap.size ≤ b) ∧ (g ∈ x.rs.map RO.r ∨ w.heap.size ≤ g)) ∧ Below w.heap.size w w'
set_option maxRecDepth 100000 in
set_option maxHeartbeats 8000000 in
theorem refTake_any (w : World) (x : RL) (hx : x.At w) (has : x.l.asked.length ≤ 1000) (n : Int) (n0 : -9223372036854775808 ≤ n) (n1 : n < 9223372036854775808) :
    Calls Tryd.prog 24 #[.agg x.cells.toArray, .int .i64 n] w fun e w' => TakePost w w' x n e := by
  unfold TakePost
  obtain ⟨hok, hfst, hrows, hnone, heach, hasked⟩ := hx
  have hpt := hok.top
  have hlp := hok.lowp
  have hl0 := hok.low0
  have hhi := hok.hi
  obtain ⟨m, hm⟩ : ∃ m, m = x.l.asked.length := ⟨_, rfl⟩
  have hll := hok.len
  obtain ⟨C, hC⟩ : ∃ C, C = x.cells := ⟨_, rfl⟩
  have HCl := Lib.hid (show C.length = 36 by rw [hC]; exact lineR_len hll)
  have HC1 := Lib.hid (show ∀ u ∈ C, u.oneCell' = true by rw [hC]; exact lineR_one rfl rfl)
  obtain ⟨w1, hw1⟩ : ∃ w1, w1 = ((w.alloc (.cells C.toArray 56)).alloc (.cells zeroOnce.toArray 38)).alloc (.cells zeroRL.toArray 56) := ⟨_, rfl⟩
  have HX := Lib.hid (show Blk w1 w.heap.size 56 C by rw [hw1]; exact ((Blk.new w _ _).alloc _).alloc _)
  have HZ4 := Lib.hid (show Blk w1 (w.heap.size + 1) 38 zeroOnce by rw [hw1]; exact (Blk.at_size _ _ (by simp)).alloc _)
  have HZ5 := Lib.hid (show Blk w1 (w.heap.size + 2) 56 zeroRL by rw [hw1]; exact Blk.at_size _ _ (by simp))
  have HB := Lib.hid (show Below w.heap.size w w1 by rw [hw1]; exact (((Below.refl _ w).alloc (Nat.le_refl _) _).alloc (by simp) _).alloc (by simp; omega) _)
  have hz1 : w.heap.size + 3 ≤ w1.heap.size := by rw [hw1]; simp
  have HW1 := Lib.hid hw1
  have HXx := Lib.hid hC
  have HLl := Lib.hid hll
  have HOk := Lib.hid hok
  have HFs := Lib.hid hfst
  have HRw := Lib.hid hrows
  have HNn := Lib.hid hnone
  have HEa := Lib.hid heach
  have HAs := Lib.hid hasked
  have HM := Lib.hid hm
  have HMs := Lib.hid (show m ≤ 1000 by omega)
  have hTE : ∀ E, takeE x.l n = E → takeE x.l n = E := fun _ h => h
  rw [← hC]
  have HHi := Lib.hid hhi
  have hdef := takeE.eq_1 x.l n
  have HDef := Lib.hid hdef
  clear hC hw1 hok hfst hrows hnone heach hasked hm hll hhi hdef hTE has
  by_cases h1 : n < 0
  · have hE : takeE x.l n = 8 := by rw [HDef.out, if_pos (.inl h1)]
    have HE := Lib.hid hE
    clear hE
    go_enter Tryd.func24, Tryd.ntmps24
    go_upto_region 1 with fail
    have hw1 := HW1.out
    simp only [show zeroOnce.toArray = #[Value.int .i64 0, Value.int .u8 0, Value.int .u8 0, Value.int .u8 0, Value.int .u8 0, Value.int .u8 0, Value.int .u8 0, Value.int .u8 0, Value.int .u8 0, Value.int .u8 0, Value.int .u8 0, Value.int .u8 0, Value.int .u8 0, Value.int .u8 0, Value.int .u8 0, Value.int .u8 0, Value.int .u8 0, Value.int .u8 0, Value.int .u8 0, Value.int .u8 0, Value.int .u8 0, Value.int .u8 0, Value.int .u8 0, Value.int .u8 0, Value.int .u8 0, Value.int .u8 0, Value.int .u8 0, Value.int .u8 0, Value.int .u8 0, Value.int .u8 0, Value.int .u8 0, Value.int .u8 0, Value.int .u8 0, Value.slice none 0 0] from rfl, show zeroRL.toArray = #[Value.int .u8 0, Value.int .u8 0, Value.int .u8 0, Value.int .u8 0, Value.int .u8 0, Value.int .u8 0, Value.int .u8 0, Value.int .u8 0, Value.int .u8 0, Value.int .u8 0, Value.int .u8 0, Value.int .u8 0, Value.int .u8 0, Value.int .u8 0, Value.int .u8 0, Value.int .u8 0, Value.int .u8 0, Value.int .u8 0, Value.int .u8 0, Value.int .u8 0, Value.int .u8 0, Value.int .u8 0, Value.int .u8 0, Value.int .u8 0, Value.int .u8 0, Value.int .u8 0, Value.int .u8 0, Value.int .u8 0, Value.int .u8 0, Value.int .u8 0, Value.int .u8 0, Value.int .u8 0, Value.int .i64 0, Value.slice none 0 0, Value.slice none 0 0, Value.int .i64 0] from rfl] at hw1
    rw [← hw1]
    clear hw1
    go_upto_region 2 with fail
    have hkS := HX.out.drew.whole
    have hu := Tryd.underlying56
    have hi36 : (Tryd.prog.info? 56).map (·.size) = some C.length := by rw [HCl.out]; exact sizeRLine
    refine wp_region_noPanic ?_
    refine wp_region_held_drew (S := fun w' => w'.rangeAt w.heap.size 0 C) (by kernel_rfl) hkS (fun hS => ?_)
    refine wpAnyH_take (i := 0) (oi := { dst := some 18, op := _, type := _, pos := _, after := _, guard := _ }) (v := .agg zeroOnce.toArray) rfl (by kernel_rfl) (by kernel_rfl) (by kernel_rfl) (fun _ _ _ h => h) (Or.inl ⟨by rfl, fun w' _ => run_buildE rfl _ rfl built_zeroROnce w'⟩) hS ?_
    try simp only [Act.put, List.setIfInBounds_toArray, List.set_cons_zero, List.set_cons_succ]
    refine wpAnyH_take (i := 1) (oi := { dst := some 19, op := _, type := _, pos := _, after := _, guard := _ }) (v := .agg C.toArray) rfl (by kernel_rfl) (by kernel_rfl) (by kernel_rfl) (fun _ _ _ h => h) (yieldsIf_load_mid (by rfl) 56 (.tmp 2) rfl w.heap.size 0 rfl C _ (fun _ h => h) hu rfl hi36) hS ?_
    try simp only [Act.put, List.setIfInBounds_toArray, List.set_cons_zero, List.set_cons_succ]
    refine wpAnyH_ready (rs := [2]) (by kernel_rfl) (by simp) (AllReadyH.cons (o := { dst := none, op := _, type := _, pos := _, after := _, guard := _ }) rfl (fun K' hK => ?_) AllReadyH.nil)
    rw [if_pos (by rfl)]
    refine wp_store_piece 38 (.tmp 4) (.tmp 18) rfl (w.heap.size + 1) 0 rfl zeroOnce rfl _ _ [] zeroOnce [] HZ4.out.drew (by simp) rfl rfl sizeROnce (onceC_one _ _ _ _ _) ?_
    intro w6 hx6 hg6
    have HX6 := Lib.hid (show Blk w6 (w.heap.size + 1) 38 zeroOnce from hx6.cast (by simp))
    have HL6 := Lib.hid (HX.out.drew.grown hg6 (fun e => by injection e with e; omega))
    have HZ6 := Lib.hid (HZ5.out.drew.grown hg6 (fun e => by injection e with e; omega))
    have HB6 := Lib.hid (HB.out.drew.grown hg6 HB.out.size (fun k e => by cases e; omega))
    clear hx6 hg6
    refine hK.out _ _ (HL6.out.whole) (fun hS => ?_)
    clear hK K'
    try simp only [Act.put, List.setIfInBounds_toArray, List.set_cons_zero, List.set_cons_succ]
    refine wpAnyH_ready (rs := [3]) (by kernel_rfl) (by simp) (AllReadyH.cons (o := { dst := none, op := _, type := _, pos := _, after := _, guard := _ }) rfl (fun K' hK => ?_) AllReadyH.nil)
    rw [if_pos (by rfl)]
    refine wp_store_piece 56 (.tmp 5) (.tmp 19) rfl (w.heap.size + 2) 0 rfl C rfl _ _ [] zeroRL [] HZ6.out (by simp) rfl (by rw [HCl.out]; rfl) (by rw [HCl.out]; exact sizeRLine) HC1.out ?_
    intro w7 hx7 hg7
    have HX7 := Lib.hid (show Blk w7 (w.heap.size + 2) 56 C from hx7.cast (by simp))
    have HY7 := Lib.hid (HX6.out.grown hg7 (fun e => by injection e with e; omega))
    have HL7 := Lib.hid (HL6.out.grown hg7 (fun e => by injection e with e; omega))
    have HB7 := Lib.hid (HB6.out.grown hg7 HB6.out.size (fun k e => by cases e; omega))
    clear hx7 hg7
    refine hK.out _ _ (HL7.out.whole) (fun hS => ?_)
    clear hK K'
    try simp only [Act.put, List.setIfInBounds_toArray, List.set_cons_zero, List.set_cons_succ]
    refine wpAnyH_ready (rs := [4]) (by kernel_rfl) (by simp) (AllReadyH.cons (o := { dst := some 6, op := _, type := _, pos := _, after := _, guard := _ }) rfl (fun K' hK => ?_) AllReadyH.nil)
    go_simp
    refine hK.out _ _ (HL7.out.whole) (fun hS => ?_)
    clear hK K'
    try simp only [Act.put, List.setIfInBounds_toArray, List.set_cons_zero, List.set_cons_succ]
    refine wpAnyH_done (by kernel_rfl) ?_ _
    refine NoPanic.normal ?_
    go_wp2_with fail
    refine bodyPost_ret (v := .tuple #[.agg zeroOnce.toArray, .agg C.toArray, .int .i64 8]) (results_blk2_tmp (g := w.heap.size + 1) (g2 := w.heap.size + 2) rfl _ _ _ _ _ _ _ _ _ rfl rfl rfl HY7.out HX7.out Tryd.underlying38 rfl sizeROnce Tryd.underlying56 rfl (by rw [HCl.out]; exact sizeRLine)) rfl ?_
    exact ⟨fun _ => by rw [HE.out]; rfl, fun h0 => absurd h0 (by rw [HE.out]; decide), HB7.out⟩
  by_cases h2 : n > 4294967294
  · have hE : takeE x.l n = 8 := by rw [HDef.out, if_pos (.inr h2)]
    have HE := Lib.hid hE
    clear hE
    go_enter Tryd.func24, Tryd.ntmps24
    go_upto_region 1 with fail
    have hw1 := HW1.out
    simp only [show zeroOnce.toArray = #[Value.int .i64 0, Value.int .u8 0, Value.int .u8 0, Value.int .u8 0, Value.int .u8 0, Value.int .u8 0, Value.int .u8 0, Value.int .u8 0, Value.int .u8 0, Value.int .u8 0, Value.int .u8 0, Value.int .u8 0, Value.int .u8 0, Value.int .u8 0, Value.int .u8 0, Value.int .u8 0, Value.int .u8 0, Value.int .u8 0, Value.int .u8 0, Value.int .u8 0, Value.int .u8 0, Value.int .u8 0, Value.int .u8 0, Value.int .u8 0, Value.int .u8 0, Value.int .u8 0, Value.int .u8 0, Value.int .u8 0, Value.int .u8 0, Value.int .u8 0, Value.int .u8 0, Value.int .u8 0, Value.int .u8 0, Value.slice none 0 0] from rfl, show zeroRL.toArray = #[Value.int .u8 0, Value.int .u8 0, Value.int .u8 0, Value.int .u8 0, Value.int .u8 0, Value.int .u8 0, Value.int .u8 0, Value.int .u8 0, Value.int .u8 0, Value.int .u8 0, Value.int .u8 0, Value.int .u8 0, Value.int .u8 0, Value.int .u8 0, Value.int .u8 0, Value.int .u8 0, Value.int .u8 0, Value.int .u8 0, Value.int .u8 0, Value.int .u8 0, Value.int .u8 0, Value.int .u8 0, Value.int .u8 0, Value.int .u8 0, Value.int .u8 0, Value.int .u8 0, Value.int .u8 0, Value.int .u8 0, Value.int .u8 0, Value.int .u8 0, Value.int .u8 0, Value.int .u8 0, Value.int .i64 0, Value.slice none 0 0, Value.slice none 0 0, Value.int .i64 0] from rfl] at hw1
    rw [← hw1]
    clear hw1
    go_upto_region 2 with fail
    have hkS := HX.out.drew.whole
    have hu := Tryd.underlying56
    have hi36 : (Tryd.prog.info? 56).map (·.size) = some C.length := by rw [HCl.out]; exact sizeRLine
    refine wp_region_noPanic ?_
    refine wp_region_held_drew (S := fun w' => w'.rangeAt w.heap.size 0 C) (by kernel_rfl) hkS (fun hS => ?_)
    refine wpAnyH_take (i := 0) (oi := { dst := some 18, op := _, type := _, pos := _, after := _, guard := _ }) (v := .agg zeroOnce.toArray) rfl (by kernel_rfl) (by kernel_rfl) (by kernel_rfl) (fun _ _ _ h => h) (Or.inl ⟨by rfl, fun w' _ => run_buildE rfl _ rfl built_zeroROnce w'⟩) hS ?_
    try simp only [Act.put, List.setIfInBounds_toArray, List.set_cons_zero, List.set_cons_succ]
    refine wpAnyH_take (i := 1) (oi := { dst := some 19, op := _, type := _, pos := _, after := _, guard := _ }) (v := .agg C.toArray) rfl (by kernel_rfl) (by kernel_rfl) (by kernel_rfl) (fun _ _ _ h => h) (yieldsIf_load_mid (by rfl) 56 (.tmp 2) rfl w.heap.size 0 rfl C _ (fun _ h => h) hu rfl hi36) hS ?_
    try simp only [Act.put, List.setIfInBounds_toArray, List.set_cons_zero, List.set_cons_succ]
    refine wpAnyH_ready (rs := [2]) (by kernel_rfl) (by simp) (AllReadyH.cons (o := { dst := none, op := _, type := _, pos := _, after := _, guard := _ }) rfl (fun K' hK => ?_) AllReadyH.nil)
    rw [if_pos (by rfl)]
    refine wp_store_piece 38 (.tmp 4) (.tmp 18) rfl (w.heap.size + 1) 0 rfl zeroOnce rfl _ _ [] zeroOnce [] HZ4.out.drew (by simp) rfl rfl sizeROnce (onceC_one _ _ _ _ _) ?_
    intro w6 hx6 hg6
    have HX6 := Lib.hid (show Blk w6 (w.heap.size + 1) 38 zeroOnce from hx6.cast (by simp))
    have HL6 := Lib.hid (HX.out.drew.grown hg6 (fun e => by injection e with e; omega))
    have HZ6 := Lib.hid (HZ5.out.drew.grown hg6 (fun e => by injection e with e; omega))
    have HB6 := Lib.hid (HB.out.drew.grown hg6 HB.out.size (fun k e => by cases e; omega))
    clear hx6 hg6
    refine hK.out _ _ (HL6.out.whole) (fun hS => ?_)
    clear hK K'
    try simp only [Act.put, List.setIfInBounds_toArray, List.set_cons_zero, List.set_cons_succ]
    refine wpAnyH_ready (rs := [3]) (by kernel_rfl) (by simp) (AllReadyH.cons (o := { dst := none, op := _, type := _, pos := _, after := _, guard := _ }) rfl (fun K' hK => ?_) AllReadyH.nil)
    rw [if_pos (by rfl)]
    refine wp_store_piece 56 (.tmp 5) (.tmp 19) rfl (w.heap.size + 2) 0 rfl C rfl _ _ [] zeroRL [] HZ6.out (by simp) rfl (by rw [HCl.out]; rfl) (by rw [HCl.out]; exact sizeRLine) HC1.out ?_
    intro w7 hx7 hg7
    have HX7 := Lib.hid (show Blk w7 (w.heap.size + 2) 56 C from hx7.cast (by simp))
    have HY7 := Lib.hid (HX6.out.grown hg7 (fun e => by injection e with e; omega))
    have HL7 := Lib.hid (HL6.out.grown hg7 (fun e => by injection e with e; omega))
    have HB7 := Lib.hid (HB6.out.grown hg7 HB6.out.size (fun k e => by cases e; omega))
    clear hx7 hg7
    refine hK.out _ _ (HL7.out.whole) (fun hS => ?_)
    clear hK K'
    try simp only [Act.put, List.setIfInBounds_toArray, List.set_cons_zero, List.set_cons_succ]
    refine wpAnyH_ready (rs := [4]) (by kernel_rfl) (by simp) (AllReadyH.cons (o := { dst := some 6, op := _, type := _, pos := _, after := _, guard := _ }) rfl (fun K' hK => ?_) AllReadyH.nil)
    go_simp
    refine hK.out _ _ (HL7.out.whole) (fun hS => ?_)
    clear hK K'
    try simp only [Act.put, List.setIfInBounds_toArray, List.set_cons_zero, List.set_cons_succ]
    refine wpAnyH_done (by kernel_rfl) ?_ _
    refine NoPanic.normal ?_
    go_wp2_with fail
    refine bodyPost_ret (v := .tuple #[.agg zeroOnce.toArray, .agg C.toArray, .int .i64 8]) (results_blk2_tmp (g := w.heap.size + 1) (g2 := w.heap.size + 2) rfl _ _ _ _ _ _ _ _ _ rfl rfl rfl HY7.out HX7.out Tryd.underlying38 rfl sizeROnce Tryd.underlying56 rfl (by rw [HCl.out]; exact sizeRLine)) rfl ?_
    exact ⟨fun _ => by rw [HE.out]; rfl, fun h0 => absurd h0 (by rw [HE.out]; decide), HB7.out⟩
  go_enter Tryd.func24, Tryd.ntmps24
  go_upto_region 1 with fail
  have hw1 := HW1.out
  simp only [show zeroOnce.toArray = #[Value.int .i64 0, Value.int .u8 0, Value.int .u8 0, Value.int .u8 0, Value.int .u8 0, Value.int .u8 0, Value.int .u8 0, Value.int .u8 0, Value.int .u8 0, Value.int .u8 0, Value.int .u8 0, Value.int .u8 0, Value.int .u8 0, Value.int .u8 0, Value.int .u8 0, Value.int .u8 0, Value.int .u8 0, Value.int .u8 0, Value.int .u8 0, Value.int .u8 0, Value.int .u8 0, Value.int .u8 0, Value.int .u8 0, Value.int .u8 0, Value.int .u8 0, Value.int .u8 0, Value.int .u8 0, Value.int .u8 0, Value.int .u8 0, Value.int .u8 0, Value.int .u8 0, Value.int .u8 0, Value.int .u8 0, Value.slice none 0 0] from rfl, show zeroRL.toArray = #[Value.int .u8 0, Value.int .u8 0, Value.int .u8 0, Value.int .u8 0, Value.int .u8 0, Value.int .u8 0, Value.int .u8 0, Value.int .u8 0, Value.int .u8 0, Value.int .u8 0, Value.int .u8 0, Value.int .u8 0, Value.int .u8 0, Value.int .u8 0, Value.int .u8 0, Value.int .u8 0, Value.int .u8 0, Value.int .u8 0, Value.int .u8 0, Value.int .u8 0, Value.int .u8 0, Value.int .u8 0, Value.int .u8 0, Value.int .u8 0, Value.int .u8 0, Value.int .u8 0, Value.int .u8 0, Value.int .u8 0, Value.int .u8 0, Value.int .u8 0, Value.int .u8 0, Value.int .u8 0, Value.int .i64 0, Value.slice none 0 0, Value.slice none 0 0, Value.int .i64 0] from rfl] at hw1
  rw [← hw1]
  clear hw1
  have h1' : ¬ (n < 0) := h1
  have h2' : ¬ (n > 4294967294) := h2
  have hH := refHi_any w1 x.l.link HLl.out x.l.place x.l.low (.slice x.hA x.rs.length x.hc) w.heap.size x.aA m x.ac x.l.asked (HAs.out.below HB.out) HB.out.size HM.out.symm (by have := HMs.out; omega) (by omega) (by omega)
  rw [show lineR x.l.link x.l.place (.slice x.hA x.rs.length x.hc) (.slice x.aA m x.ac) x.l.low = C by rw [HXx.out, HM.out]; rfl, show hiA x.l.asked x.l.low = x.l.place - 1 from HHi.out] at hH
  have HH := Lib.hid hH
  have hnlow : ¬ (n < 0 ∨ 4294967294 < n) := by omega
  have HNl := Lib.hid hnlow
  obtain ⟨P, hP⟩ : ∃ P, P = x.l.place := ⟨_, rfl⟩
  obtain ⟨Lw, hLw⟩ : ∃ Lw, Lw = x.l.low := ⟨_, rfl⟩
  rw [← hP] at HH hpt hlp
  rw [← hLw] at hlp hl0
  have HPe := Lib.hid hP
  have HLe := Lib.hid hLw
  have hi36 : (Tryd.prog.info? 56).map (·.size) = some C.length := by rw [HCl.out]; exact sizeRLine
  have HI36 := Lib.hid hi36
  clear hH hnlow hP hLw h1 h2 hi36
  go_wp2_with (refine wpList_load_mid rfl 56 (.tmp 2) rfl w.heap.size 0 rfl C _ HX.out.whole Tryd.underlying56 rfl HI36.out ?_)
  refine HH.out.mono ?_
  rintro e w2 ⟨rfl, hb2⟩
  have HX2 := Lib.hid (HX.out.below hb2 (by omega))
  have HZ42 := Lib.hid (HZ4.out.below hb2 (by omega))
  have HZ52 := Lib.hid (HZ5.out.below hb2 (by omega))
  have HB2 := Lib.hid (HB.out.trans (hb2.mono (by omega)))
  have hz2 := hb2.size
  clear hb2 HX HZ4 HZ5 HB HW1
  have HX := HX2
  have HZ4 := HZ42
  have HZ5 := HZ52
  have HB := HB2
  clear HX2 HZ42 HZ52 HB2
  by_cases h3 : n < P - 1 - 64
  · have hE : takeE x.l n = 11 := by rw [HDef.out, if_neg HNl.out, if_pos (by rw [HHi.out, ← HPe.out]; exact h3)]
    have HE := Lib.hid hE
    clear hE
    go_upto_region 4 with fail
    have hkS := HX.out.drew.whole
    have hu := Tryd.underlying56
    have hi36 : (Tryd.prog.info? 56).map (·.size) = some C.length := by rw [HCl.out]; exact sizeRLine
    refine wp_region_noPanic ?_
    refine wp_region_held_drew (S := fun w' => w'.rangeAt w.heap.size 0 C) (by kernel_rfl) hkS (fun hS => ?_)
    refine wpAnyH_take (i := 0) (oi := { dst := some 25, op := _, type := _, pos := _, after := _, guard := _ }) (v := .agg zeroOnce.toArray) rfl (by kernel_rfl) (by kernel_rfl) (by kernel_rfl) (fun _ _ _ h => h) (Or.inl ⟨by rfl, fun w' _ => run_buildE rfl _ rfl built_zeroROnce w'⟩) hS ?_
    try simp only [Act.put, List.setIfInBounds_toArray, List.set_cons_zero, List.set_cons_succ]
    refine wpAnyH_take (i := 1) (oi := { dst := some 26, op := _, type := _, pos := _, after := _, guard := _ }) (v := .agg C.toArray) rfl (by kernel_rfl) (by kernel_rfl) (by kernel_rfl) (fun _ _ _ h => h) (yieldsIf_load_mid (by rfl) 56 (.tmp 2) rfl w.heap.size 0 rfl C _ (fun _ h => h) hu rfl hi36) hS ?_
    try simp only [Act.put, List.setIfInBounds_toArray, List.set_cons_zero, List.set_cons_succ]
    refine wpAnyH_ready (rs := [2]) (by kernel_rfl) (by simp) (AllReadyH.cons (o := { dst := none, op := _, type := _, pos := _, after := _, guard := _ }) rfl (fun K' hK => ?_) AllReadyH.nil)
    rw [if_pos (by rfl)]
    refine wp_store_piece 38 (.tmp 4) (.tmp 25) rfl (w.heap.size + 1) 0 rfl zeroOnce rfl _ _ [] zeroOnce [] HZ4.out.drew (by simp) rfl rfl sizeROnce (onceC_one _ _ _ _ _) ?_
    intro w6 hx6 hg6
    have HX6 := Lib.hid (show Blk w6 (w.heap.size + 1) 38 zeroOnce from hx6.cast (by simp))
    have HL6 := Lib.hid (HX.out.drew.grown hg6 (fun e => by injection e with e; omega))
    have HZ6 := Lib.hid (HZ5.out.drew.grown hg6 (fun e => by injection e with e; omega))
    have HB6 := Lib.hid (HB.out.drew.grown hg6 HB.out.size (fun k e => by cases e; omega))
    clear hx6 hg6
    refine hK.out _ _ (HL6.out.whole) (fun hS => ?_)
    clear hK K'
    try simp only [Act.put, List.setIfInBounds_toArray, List.set_cons_zero, List.set_cons_succ]
    refine wpAnyH_ready (rs := [3]) (by kernel_rfl) (by simp) (AllReadyH.cons (o := { dst := none, op := _, type := _, pos := _, after := _, guard := _ }) rfl (fun K' hK => ?_) AllReadyH.nil)
    rw [if_pos (by rfl)]
    refine wp_store_piece 56 (.tmp 5) (.tmp 26) rfl (w.heap.size + 2) 0 rfl C rfl _ _ [] zeroRL [] HZ6.out (by simp) rfl (by rw [HCl.out]; rfl) (by rw [HCl.out]; exact sizeRLine) HC1.out ?_
    intro w7 hx7 hg7
    have HX7 := Lib.hid (show Blk w7 (w.heap.size + 2) 56 C from hx7.cast (by simp))
    have HY7 := Lib.hid (HX6.out.grown hg7 (fun e => by injection e with e; omega))
    have HL7 := Lib.hid (HL6.out.grown hg7 (fun e => by injection e with e; omega))
    have HB7 := Lib.hid (HB6.out.grown hg7 HB6.out.size (fun k e => by cases e; omega))
    clear hx7 hg7
    refine hK.out _ _ (HL7.out.whole) (fun hS => ?_)
    clear hK K'
    try simp only [Act.put, List.setIfInBounds_toArray, List.set_cons_zero, List.set_cons_succ]
    refine wpAnyH_ready (rs := [4]) (by kernel_rfl) (by simp) (AllReadyH.cons (o := { dst := some 6, op := _, type := _, pos := _, after := _, guard := _ }) rfl (fun K' hK => ?_) AllReadyH.nil)
    go_simp
    refine hK.out _ _ (HL7.out.whole) (fun hS => ?_)
    clear hK K'
    try simp only [Act.put, List.setIfInBounds_toArray, List.set_cons_zero, List.set_cons_succ]
    refine wpAnyH_done (by kernel_rfl) ?_ _
    refine NoPanic.normal ?_
    go_wp2_with fail
    refine bodyPost_ret (v := .tuple #[.agg zeroOnce.toArray, .agg C.toArray, .int .i64 11]) (results_blk2_tmp (g := w.heap.size + 1) (g2 := w.heap.size + 2) rfl _ _ _ _ _ _ _ _ _ rfl rfl rfl HY7.out HX7.out Tryd.underlying38 rfl sizeROnce Tryd.underlying56 rfl (by rw [HCl.out]; exact sizeRLine)) rfl ?_
    exact ⟨fun _ => by rw [HE.out]; rfl, fun h0 => absurd h0 (by rw [HE.out]; decide), HB7.out⟩
  have h3e : ¬ (n < hiM x.l - 64) := by rw [HHi.out, ← HPe.out]; exact h3
  have H3 := Lib.hid h3e
  have c35 := HX.out.cell 35 (u := .int .i64 Lw) (by rw [HXx.out, HLe.out]; exact lineR_35 HLl.out)
  clear h3e
  by_cases h4 : n < Lw
  · have hE : takeE x.l n = 7 := by rw [HDef.out, if_neg HNl.out, if_neg (show ¬ (n < hiM x.l - 64) from by have := H3.out; omega), if_pos (by rw [← HLe.out]; exact h4)]
    have HE := Lib.hid hE
    clear hE
    go_upto_region 6 with fail
    have hkS := HX.out.drew.whole
    have hu := Tryd.underlying56
    have hi36 : (Tryd.prog.info? 56).map (·.size) = some C.length := by rw [HCl.out]; exact sizeRLine
    refine wp_region_noPanic ?_
    refine wp_region_held_drew (S := fun w' => w'.rangeAt w.heap.size 0 C) (by kernel_rfl) hkS (fun hS => ?_)
    refine wpAnyH_take (i := 0) (oi := { dst := some 31, op := _, type := _, pos := _, after := _, guard := _ }) (v := .agg zeroOnce.toArray) rfl (by kernel_rfl) (by kernel_rfl) (by kernel_rfl) (fun _ _ _ h => h) (Or.inl ⟨by rfl, fun w' _ => run_buildE rfl _ rfl built_zeroROnce w'⟩) hS ?_
    try simp only [Act.put, List.setIfInBounds_toArray, List.set_cons_zero, List.set_cons_succ]
    refine wpAnyH_take (i := 1) (oi := { dst := some 32, op := _, type := _, pos := _, after := _, guard := _ }) (v := .agg C.toArray) rfl (by kernel_rfl) (by kernel_rfl) (by kernel_rfl) (fun _ _ _ h => h) (yieldsIf_load_mid (by rfl) 56 (.tmp 2) rfl w.heap.size 0 rfl C _ (fun _ h => h) hu rfl hi36) hS ?_
    try simp only [Act.put, List.setIfInBounds_toArray, List.set_cons_zero, List.set_cons_succ]
    refine wpAnyH_ready (rs := [2]) (by kernel_rfl) (by simp) (AllReadyH.cons (o := { dst := none, op := _, type := _, pos := _, after := _, guard := _ }) rfl (fun K' hK => ?_) AllReadyH.nil)
    rw [if_pos (by rfl)]
    refine wp_store_piece 38 (.tmp 4) (.tmp 31) rfl (w.heap.size + 1) 0 rfl zeroOnce rfl _ _ [] zeroOnce [] HZ4.out.drew (by simp) rfl rfl sizeROnce (onceC_one _ _ _ _ _) ?_
    intro w6 hx6 hg6
    have HX6 := Lib.hid (show Blk w6 (w.heap.size + 1) 38 zeroOnce from hx6.cast (by simp))
    have HL6 := Lib.hid (HX.out.drew.grown hg6 (fun e => by injection e with e; omega))
    have HZ6 := Lib.hid (HZ5.out.drew.grown hg6 (fun e => by injection e with e; omega))
    have HB6 := Lib.hid (HB.out.drew.grown hg6 HB.out.size (fun k e => by cases e; omega))
    clear hx6 hg6
    refine hK.out _ _ (HL6.out.whole) (fun hS => ?_)
    clear hK K'
    try simp only [Act.put, List.setIfInBounds_toArray, List.set_cons_zero, List.set_cons_succ]
    refine wpAnyH_ready (rs := [3]) (by kernel_rfl) (by simp) (AllReadyH.cons (o := { dst := none, op := _, type := _, pos := _, after := _, guard := _ }) rfl (fun K' hK => ?_) AllReadyH.nil)
    rw [if_pos (by rfl)]
    refine wp_store_piece 56 (.tmp 5) (.tmp 32) rfl (w.heap.size + 2) 0 rfl C rfl _ _ [] zeroRL [] HZ6.out (by simp) rfl (by rw [HCl.out]; rfl) (by rw [HCl.out]; exact sizeRLine) HC1.out ?_
    intro w7 hx7 hg7
    have HX7 := Lib.hid (show Blk w7 (w.heap.size + 2) 56 C from hx7.cast (by simp))
    have HY7 := Lib.hid (HX6.out.grown hg7 (fun e => by injection e with e; omega))
    have HL7 := Lib.hid (HL6.out.grown hg7 (fun e => by injection e with e; omega))
    have HB7 := Lib.hid (HB6.out.grown hg7 HB6.out.size (fun k e => by cases e; omega))
    clear hx7 hg7
    refine hK.out _ _ (HL7.out.whole) (fun hS => ?_)
    clear hK K'
    try simp only [Act.put, List.setIfInBounds_toArray, List.set_cons_zero, List.set_cons_succ]
    refine wpAnyH_ready (rs := [4]) (by kernel_rfl) (by simp) (AllReadyH.cons (o := { dst := some 6, op := _, type := _, pos := _, after := _, guard := _ }) rfl (fun K' hK => ?_) AllReadyH.nil)
    go_simp
    refine hK.out _ _ (HL7.out.whole) (fun hS => ?_)
    clear hK K'
    try simp only [Act.put, List.setIfInBounds_toArray, List.set_cons_zero, List.set_cons_succ]
    refine wpAnyH_done (by kernel_rfl) ?_ _
    refine NoPanic.normal ?_
    go_wp2_with fail
    refine bodyPost_ret (v := .tuple #[.agg zeroOnce.toArray, .agg C.toArray, .int .i64 7]) (results_blk2_tmp (g := w.heap.size + 1) (g2 := w.heap.size + 2) rfl _ _ _ _ _ _ _ _ _ rfl rfl rfl HY7.out HX7.out Tryd.underlying38 rfl sizeROnce Tryd.underlying56 rfl (by rw [HCl.out]; exact sizeRLine)) rfl ?_
    exact ⟨fun _ => by rw [HE.out]; rfl, fun h0 => absurd h0 (by rw [HE.out]; decide), HB7.out⟩
  have h4e : ¬ (n < x.l.low) := by rw [← HLe.out]; exact h4
  have H4 := Lib.hid h4e
  have c34 := HX.out.cell 34 (u := .slice x.aA m x.ac) (by rw [HXx.out, HM.out]; exact lineR_34 HLl.out)
  have HAs2 := Lib.hid (HAs.out.below HB.out)
  clear h4e
  go_wp2_with fail
  go_loopw [7] (fun v wr => ∃ k : Nat, v = .int .i64 (k : Int) ∧ k ≤ m ∧ (∀ (i : Nat) (h : i < x.l.asked.length), i < k → x.l.asked[i] ≠ n) ∧ wr = w2) (fun v _ => m - (intOf v).toNat)
  case atStart => exact ⟨0, rfl, by omega, fun i h hi => by omega, rfl⟩
  case round =>
    obtain ⟨k, rfl, hk, hno, rfl⟩ := hrel
    have HNo := Lib.hid hno
    have hm1000 := HMs.out
    clear hno
    by_cases hlt : k < m
    · have hkl : k < x.l.asked.length := by rw [← HM.out]; exact hlt
      obtain ⟨b, off, hAeq, hBk, hck⟩ := HAs2.out.at_ hkl
      obtain ⟨q, hq⟩ : ∃ q, q = x.l.asked[k] := ⟨_, rfl⟩
      rw [← hq] at hck
      have HQ := Lib.hid hq
      have hck' : wr.cell? ⟨b, off + k, none⟩ = some (.int .i64 q) := hck
      have hlk : (k : Int) < (m : Int) := by omega
      rw [hAeq] at c34
      have HAq := Lib.hid hAeq
      clear hck hq hAeq
      by_cases hx : q = n
      · have hE : takeE x.l n = 7 := by
          rw [HDef.out, if_neg HNl.out, if_neg (show ¬ (n < hiM x.l - 64) from by have := H3.out; omega), if_neg (show ¬ (n < x.l.low) from by have := H4.out; omega), if_pos (by rw [← hx, HQ.out]; exact List.getElem_mem hkl)]
        have HE := Lib.hid hE
        clear hE
        subst hx
        go_upto_region 11 with fail
        have hkS := HX.out.drew.whole
        have hu := Tryd.underlying56
        have hi36 : (Tryd.prog.info? 56).map (·.size) = some C.length := by rw [HCl.out]; exact sizeRLine
        refine wp_region_noPanic ?_
        refine wp_region_held_drew (S := fun w' => w'.rangeAt w.heap.size 0 C) (by kernel_rfl) hkS (fun hS => ?_)
        refine wpAnyH_take (i := 0) (oi := { dst := some 47, op := _, type := _, pos := _, after := _, guard := _ }) (v := .agg zeroOnce.toArray) rfl (by kernel_rfl) (by kernel_rfl) (by kernel_rfl) (fun _ _ _ h => h) (Or.inl ⟨by rfl, fun w' _ => run_buildE rfl _ rfl built_zeroROnce w'⟩) hS ?_
        try simp only [Act.put, List.setIfInBounds_toArray, List.set_cons_zero, List.set_cons_succ]
        refine wpAnyH_take (i := 1) (oi := { dst := some 48, op := _, type := _, pos := _, after := _, guard := _ }) (v := .agg C.toArray) rfl (by kernel_rfl) (by kernel_rfl) (by kernel_rfl) (fun _ _ _ h => h) (yieldsIf_load_mid (by rfl) 56 (.tmp 2) rfl w.heap.size 0 rfl C _ (fun _ h => h) hu rfl hi36) hS ?_
        try simp only [Act.put, List.setIfInBounds_toArray, List.set_cons_zero, List.set_cons_succ]
        refine wpAnyH_ready (rs := [2]) (by kernel_rfl) (by simp) (AllReadyH.cons (o := { dst := none, op := _, type := _, pos := _, after := _, guard := _ }) rfl (fun K' hK => ?_) AllReadyH.nil)
        rw [if_pos (by rfl)]
        refine wp_store_piece 38 (.tmp 4) (.tmp 47) rfl (w.heap.size + 1) 0 rfl zeroOnce rfl _ _ [] zeroOnce [] HZ4.out.drew (by simp) rfl rfl sizeROnce (onceC_one _ _ _ _ _) ?_
        intro w6 hx6 hg6
        have HX6 := Lib.hid (show Blk w6 (w.heap.size + 1) 38 zeroOnce from hx6.cast (by simp))
        have HL6 := Lib.hid (HX.out.drew.grown hg6 (fun e => by injection e with e; omega))
        have HZ6 := Lib.hid (HZ5.out.drew.grown hg6 (fun e => by injection e with e; omega))
        have HB6 := Lib.hid (HB.out.drew.grown hg6 HB.out.size (fun k e => by cases e; omega))
        clear hx6 hg6
        refine hK.out _ _ (HL6.out.whole) (fun hS => ?_)
        clear hK K'
        try simp only [Act.put, List.setIfInBounds_toArray, List.set_cons_zero, List.set_cons_succ]
        refine wpAnyH_ready (rs := [3]) (by kernel_rfl) (by simp) (AllReadyH.cons (o := { dst := none, op := _, type := _, pos := _, after := _, guard := _ }) rfl (fun K' hK => ?_) AllReadyH.nil)
        rw [if_pos (by rfl)]
        refine wp_store_piece 56 (.tmp 5) (.tmp 48) rfl (w.heap.size + 2) 0 rfl C rfl _ _ [] zeroRL [] HZ6.out (by simp) rfl (by rw [HCl.out]; rfl) (by rw [HCl.out]; exact sizeRLine) HC1.out ?_
        intro w7 hx7 hg7
        have HX7 := Lib.hid (show Blk w7 (w.heap.size + 2) 56 C from hx7.cast (by simp))
        have HY7 := Lib.hid (HX6.out.grown hg7 (fun e => by injection e with e; omega))
        have HL7 := Lib.hid (HL6.out.grown hg7 (fun e => by injection e with e; omega))
        have HB7 := Lib.hid (HB6.out.grown hg7 HB6.out.size (fun k e => by cases e; omega))
        clear hx7 hg7
        refine hK.out _ _ (HL7.out.whole) (fun hS => ?_)
        clear hK K'
        try simp only [Act.put, List.setIfInBounds_toArray, List.set_cons_zero, List.set_cons_succ]
        refine wpAnyH_ready (rs := [4]) (by kernel_rfl) (by simp) (AllReadyH.cons (o := { dst := some 6, op := _, type := _, pos := _, after := _, guard := _ }) rfl (fun K' hK => ?_) AllReadyH.nil)
        go_simp
        refine hK.out _ _ (HL7.out.whole) (fun hS => ?_)
        clear hK K'
        try simp only [Act.put, List.setIfInBounds_toArray, List.set_cons_zero, List.set_cons_succ]
        refine wpAnyH_done (by kernel_rfl) ?_ _
        refine NoPanic.normal ?_
        go_wp2_with fail
        refine bodyPost_ret (v := .tuple #[.agg zeroOnce.toArray, .agg C.toArray, .int .i64 7]) (results_blk2_tmp (g := w.heap.size + 1) (g2 := w.heap.size + 2) rfl _ _ _ _ _ _ _ _ _ rfl rfl rfl HY7.out HX7.out Tryd.underlying38 rfl sizeROnce Tryd.underlying56 rfl (by rw [HCl.out]; exact sizeRLine)) rfl ?_
        exact ⟨fun _ => by rw [HE.out]; rfl, fun h0 => absurd h0 (by rw [HE.out]; decide), HB7.out⟩
      · go_wp2_with fail
        have hst : ∀ (i : Nat) (h : i < x.l.asked.length), i < k + 1 → x.l.asked[i] ≠ n := fun i h hi => by
          rcases Nat.lt_or_ge i k with h9 | h9
          · exact HNo.out i h h9
          · have : i = k := by omega
            subst this
            rw [← HQ.out]; exact hx
        refine ⟨⟨k + 1, by go_num, by omega, hst, trivial⟩, ?_⟩
        simp [intOf] <;> omega
    · obtain rfl : m = k := by omega
      have hna : n ∉ x.l.asked := fun h => by
        obtain ⟨i, hi, e⟩ := List.getElem_of_mem h
        exact HNo.out i hi (by rw [HM.out]; exact hi) e
      have HNa := Lib.hid hna
      have c32 := HX.out.cell 32 (u := .int .i64 P) (by rw [HXx.out, HPe.out]; exact lineR_32 HLl.out)
      clear hna
      by_cases hf : P < n ∧ 256 < n - P
      · have hE : takeE x.l n = 12 := by
          rw [HDef.out, if_neg HNl.out, if_neg (show ¬ (n < hiM x.l - 64) from by have := H3.out; omega), if_neg (show ¬ (n < x.l.low) from by have := H4.out; omega), if_neg HNa.out, if_pos (by rw [← HPe.out]; exact hf)]
        have HE := Lib.hid hE
        clear hE
        obtain ⟨hf1, hf2⟩ := hf
        have hf1' : n > P := hf1
        have hf2' : n - P > 256 := hf2
        go_upto_region 13 with fail
        have hkS := HX.out.drew.whole
        have hu := Tryd.underlying56
        have hi36 : (Tryd.prog.info? 56).map (·.size) = some C.length := by rw [HCl.out]; exact sizeRLine
        refine wp_region_noPanic ?_
        refine wp_region_held_drew (S := fun w' => w'.rangeAt w.heap.size 0 C) (by kernel_rfl) hkS (fun hS => ?_)
        refine wpAnyH_take (i := 0) (oi := { dst := some 60, op := _, type := _, pos := _, after := _, guard := _ }) (v := .agg zeroOnce.toArray) rfl (by kernel_rfl) (by kernel_rfl) (by kernel_rfl) (fun _ _ _ h => h) (Or.inl ⟨by rfl, fun w' _ => run_buildE rfl _ rfl built_zeroROnce w'⟩) hS ?_
        try simp only [Act.put, List.setIfInBounds_toArray, List.set_cons_zero, List.set_cons_succ]
        refine wpAnyH_take (i := 1) (oi := { dst := some 61, op := _, type := _, pos := _, after := _, guard := _ }) (v := .agg C.toArray) rfl (by kernel_rfl) (by kernel_rfl) (by kernel_rfl) (fun _ _ _ h => h) (yieldsIf_load_mid (by rfl) 56 (.tmp 2) rfl w.heap.size 0 rfl C _ (fun _ h => h) hu rfl hi36) hS ?_
        try simp only [Act.put, List.setIfInBounds_toArray, List.set_cons_zero, List.set_cons_succ]
        refine wpAnyH_ready (rs := [2]) (by kernel_rfl) (by simp) (AllReadyH.cons (o := { dst := none, op := _, type := _, pos := _, after := _, guard := _ }) rfl (fun K' hK => ?_) AllReadyH.nil)
        rw [if_pos (by rfl)]
        refine wp_store_piece 38 (.tmp 4) (.tmp 60) rfl (w.heap.size + 1) 0 rfl zeroOnce rfl _ _ [] zeroOnce [] HZ4.out.drew (by simp) rfl rfl sizeROnce (onceC_one _ _ _ _ _) ?_
        intro w6 hx6 hg6
        have HX6 := Lib.hid (show Blk w6 (w.heap.size + 1) 38 zeroOnce from hx6.cast (by simp))
        have HL6 := Lib.hid (HX.out.drew.grown hg6 (fun e => by injection e with e; omega))
        have HZ6 := Lib.hid (HZ5.out.drew.grown hg6 (fun e => by injection e with e; omega))
        have HB6 := Lib.hid (HB.out.drew.grown hg6 HB.out.size (fun k e => by cases e; omega))
        clear hx6 hg6
        refine hK.out _ _ (HL6.out.whole) (fun hS => ?_)
        clear hK K'
        try simp only [Act.put, List.setIfInBounds_toArray, List.set_cons_zero, List.set_cons_succ]
        refine wpAnyH_ready (rs := [3]) (by kernel_rfl) (by simp) (AllReadyH.cons (o := { dst := none, op := _, type := _, pos := _, after := _, guard := _ }) rfl (fun K' hK => ?_) AllReadyH.nil)
        rw [if_pos (by rfl)]
        refine wp_store_piece 56 (.tmp 5) (.tmp 61) rfl (w.heap.size + 2) 0 rfl C rfl _ _ [] zeroRL [] HZ6.out (by simp) rfl (by rw [HCl.out]; rfl) (by rw [HCl.out]; exact sizeRLine) HC1.out ?_
        intro w7 hx7 hg7
        have HX7 := Lib.hid (show Blk w7 (w.heap.size + 2) 56 C from hx7.cast (by simp))
        have HY7 := Lib.hid (HX6.out.grown hg7 (fun e => by injection e with e; omega))
        have HL7 := Lib.hid (HL6.out.grown hg7 (fun e => by injection e with e; omega))
        have HB7 := Lib.hid (HB6.out.grown hg7 HB6.out.size (fun k e => by cases e; omega))
        clear hx7 hg7
        refine hK.out _ _ (HL7.out.whole) (fun hS => ?_)
        clear hK K'
        try simp only [Act.put, List.setIfInBounds_toArray, List.set_cons_zero, List.set_cons_succ]
        refine wpAnyH_ready (rs := [4]) (by kernel_rfl) (by simp) (AllReadyH.cons (o := { dst := some 6, op := _, type := _, pos := _, after := _, guard := _ }) rfl (fun K' hK => ?_) AllReadyH.nil)
        go_simp
        refine hK.out _ _ (HL7.out.whole) (fun hS => ?_)
        clear hK K'
        try simp only [Act.put, List.setIfInBounds_toArray, List.set_cons_zero, List.set_cons_succ]
        refine wpAnyH_done (by kernel_rfl) ?_ _
        refine NoPanic.normal ?_
        go_wp2_with fail
        refine bodyPost_ret (v := .tuple #[.agg zeroOnce.toArray, .agg C.toArray, .int .i64 12]) (results_blk2_tmp (g := w.heap.size + 1) (g2 := w.heap.size + 2) rfl _ _ _ _ _ _ _ _ _ rfl rfl rfl HY7.out HX7.out Tryd.underlying38 rfl sizeROnce Tryd.underlying56 rfl (by rw [HCl.out]; exact sizeRLine)) rfl ?_
        exact ⟨fun _ => by rw [HE.out]; rfl, fun h0 => absurd h0 (by rw [HE.out]; decide), HB7.out⟩
      have hE : takeE x.l n = 0 := by
        rw [HDef.out, if_neg HNl.out, if_neg (show ¬ (n < hiM x.l - 64) from by have := H3.out; omega), if_neg (show ¬ (n < x.l.low) from by have := H4.out; omega), if_neg HNa.out, if_neg (by rw [← HPe.out]; exact hf)]
      have HE := Lib.hid hE
      clear hE
      go_upto_region 12 with fail
      go_cut [59] from 49 to 59 (fun v wx => v = .bool false ∧ wx = wr)
      case first =>
        by_cases hf1 : P < n
        · have hf2 : ¬ (n - P > 256) := by omega
          have hf1' : n > P := hf1
          go_wp2_with fail
          go_meet
          case rel => exact ⟨rfl, rfl⟩
        · have hf1' : ¬ (n > P) := hf1
          go_wp2_with fail
          go_meet
          case rel => exact ⟨rfl, rfl⟩
      case rest =>
        obtain ⟨rfl, rfl⟩ := hcut
        obtain ⟨ir, hir, hrz, hrs, hrb⟩ := info_parts infoROnce
        obtain ⟨ii, hii, hiz, his, hib⟩ := info_parts infoIntR
        have hrl : x.rs.length = x.l.held.length := by rw [← HFs.out, List.length_map]
        have hrl64 : x.rs.length ≤ 64 := by rw [hrl]; exact HOk.out.held_len
        have HFl := Lib.hid (RO.flat_len HEa.out)
        obtain ⟨B0, hB0⟩ : ∃ B0, B0 = wc.heap.size := ⟨_, rfl⟩
        have hB3 : w.heap.size + 3 ≤ B0 := by omega
        have hB4 : B0 ≤ wc.heap.size := by omega
        have HOw0 := Lib.hid (show (wc.alloc (.cells #[] 38)).ownsRow B0 38 34 (.slice (some ⟨wc.heap.size, 0, none⟩) 0 0) 0 [] from by
          have h := World.ownsRow_lit (base := B0) (e := 38) (size := 34) wc #[] 0 (by omega) (by decide) (by simp)
          simpa using h)
        have HRw3 := Lib.hid (HRw.out.below (HB.out.alloc HB.out.size (.cells #[] 38)))
        have c33 := HX.out.cell 33 (u := .slice x.hA x.rs.length x.hc) (by rw [HXx.out]; exact lineR_33 HLl.out)
        have hzc : w.heap.size < wc.heap.size := by omega
        clear hrl hB0 c35 c34
        go_upto_region 15 with (at_builtin; refine wpList_append_rowD rfl _ _ 54 rfl 34 (by decide) B0 38 ir (.agg zeroOnce.toArray) 64 Tryd.underlying54 hir hrz hrs hrb rfl _ _ _ rfl HOw0.out w.heap.size x.hA x.rs.length x.hc (x.rs.flatMap RO.cells) rfl HFl.out HNn.out HRw3.out (RO.flat_one _) (by unfold maxLen; omega) (by omega) (by simp; omega) ?_; intro v8 w3 hown3 hg3 hbb3)
        have hbw : Below B0 wc w3 := hbb3 B0 wc (Nat.le_refl _) ((Below.refl _ wc).alloc hB4 _)
        have hbt : Below w.heap.size w w3 := hbb3 w.heap.size w (by omega) (HB.out.alloc HB.out.size _)
        rw [Nat.zero_add, List.nil_append] at hown3
        have HOw3 := Lib.hid hown3
        obtain ⟨HV, hHV⟩ : ∃ HV, HV = Value.slice x.hA x.rs.length x.hc := ⟨_, rfl⟩
        obtain ⟨AV, hAV⟩ : ∃ AV, AV = Value.slice x.aA m x.ac := ⟨_, rfl⟩
        have HAVe := Lib.hid hAV
        have HX3 := Lib.hid (show Blk w3 w.heap.size 56 (lineR (linkAt x.l.link 0) (P + ((0 : Nat) : Int)) HV AV Lw) by
          have h := HX.out.below hbw (by omega)
          rw [HXx.out] at h
          refine h.cast ?_
          rw [hHV, hAV, HM.out, HPe.out, HLe.out]
          show lineR x.l.link x.l.place _ _ _ = lineR x.l.link (x.l.place + 0) _ _ _
          rw [Int.add_zero])
        have HV1 := Lib.hid (show HV.oneCell' = true by rw [hHV]; rfl)
        have HAV1 := Lib.hid (show AV.oneCell' = true by rw [hAV]; rfl)
        have HZ43 := Lib.hid (HZ4.out.below hbw (by omega))
        have HZ53 := Lib.hid (HZ5.out.below hbw (by omega))
        have HE3 := Lib.hid (show ∀ o ∈ x.rs, o.At w3 from fun o ho => (HEa.out o ho).below hbt (Nat.le_refl _))
        have HB3 := Lib.hid hbt
        have hz3 : B0 ≤ w3.heap.size := Nat.le_trans hB4 hbw.size
        obtain ⟨K, hK⟩ : ∃ K : Nat, K = (n + 1 - P).toNat := ⟨_, rfl⟩
        have hK1 : K ≤ 257 := by omega
        have hKn : ∀ k : Nat, (k < K) ↔ P + (k : Int) ≤ n := fun k => by omega
        have HKn := Lib.hid hKn
        have HKe := Lib.hid hK
        have HH3 := Lib.hid (show x.rs.map RO.o = x.l.held ++ runL x.l.link P 0 by rw [HFs.out]; simp [runL])
        have hP0 : 0 ≤ P := by omega
        obtain ⟨H0, hH0⟩ : ∃ H0, H0 = x.l.held.length := ⟨_, rfl⟩
        have hH64 : H0 ≤ 64 := by rw [hH0]; exact HOk.out.held_len
        have HH0 := Lib.hid hH0
        obtain ⟨A3, c3, hv3, -, -, -, -⟩ := rowS_shape hown3
        rw [hv3] at HOw3
        subst hv3
        clear hown3 hg3 hbb3 hbw hbt hHV hAV hK hKn HX HZ4 HZ5 HB HOw0 HRw3 c33 c32 hH0 hzc hB4 hz2
        go_wp2_with fail
        go_loopw [8] (fun v wr => ∃ (k : Nat) (rs2 : List RO), k ≤ K ∧ wr.ownsRow B0 38 34 v rs2.length (rs2.flatMap RO.cells) ∧ rs2.map RO.o = x.l.held ++ runL x.l.link P k ∧ (∀ o ∈ rs2, o.At wr) ∧ (∀ o ∈ rs2, o.r ∈ x.rs.map RO.r ∨ w.heap.size ≤ o.r) ∧ Blk wr w.heap.size 56 (lineR (linkAt x.l.link k) (P + (k : Int)) HV AV Lw) ∧ Blk wr (w.heap.size + 1) 38 zeroOnce ∧ Blk wr (w.heap.size + 2) 56 zeroRL ∧ Below w.heap.size w wr ∧ B0 ≤ wr.heap.size) (fun v _ => H0 + K - lenV v)
        case atStart => exact ⟨0, x.rs, by omega, HOw3.out, HH3.out, HE3.out, fun o ho => .inl (List.mem_map.2 ⟨o, ho, rfl⟩), HX3.out, HZ43.out, HZ53.out, HB3.out, hz3⟩
        case round =>
          clear HOw3 HH3 HE3 HX3 HZ43 HZ53 HB3 hz3
          obtain ⟨k, rs2, hk, hown, hmp, hat, hrr, hln, hz4, hz5, hb, hz3⟩ := hrel
          obtain ⟨A2, c2, rfl, hrd2, -, -, -⟩ := rowS_shape hown
          have hlen : rs2.length = H0 + k := by
            have h := congrArg List.length hmp
            rw [List.length_map, List.length_append, runL_len, ← HH0.out] at h
            exact h
          have HOw := Lib.hid hown
          have HMp := Lib.hid hmp
          have HAt := Lib.hid hat
          have HRr := Lib.hid hrr
          have HLn := Lib.hid hln
          have HZ4 := Lib.hid hz4
          have HZ5 := Lib.hid hz5
          have HB := Lib.hid hb
          have HLen := Lib.hid hlen
          have hrs400 : rs2.length ≤ 400 := by omega
          have hlk := linkAt_len x.l.link HLl.out k
          obtain ⟨lk, hlke⟩ : ∃ lk, lk = linkAt x.l.link k := ⟨_, rfl⟩
          rw [← hlke] at HLn hlk
          have HLke := Lib.hid hlke
          have HLkl := Lib.hid hlk
          have c32 := HLn.out.cell 32 (u := .int .i64 (P + (k : Int))) (lineR_32 hlk)
          clear hown hmp hat hrr hln hz4 hz5 hb hlen hlke hlk hrd2
          by_cases hlt : k < K
          · have hle : P + (k : Int) ≤ n := (HKn.out k).1 hlt
            have hof := refOf_anyG wr lk HLkl.out (P + (k : Int))
            rw [arrV_mk] at hof
            have HOf := Lib.hid hof
            have HRl := Lib.hid (lineR_link wr _ _ HLkl.out HLn.out)
            have hi32 : (Tryd.prog.info? 23).map (·.size) = some (lk.map b8).length := by rw [List.length_map, HLkl.out]; exact size32
            have HI32 := Lib.hid hi32
            clear hof hi32
            go_wp2_with (refine wpList_load_mid rfl 23 (.tmp 71) rfl w.heap.size 0 rfl (lk.map b8) _ HRl.out Tryd.underlying23 rfl HI32.out ?_)
            refine HOf.out.mono ?_
            rintro e w5 ⟨g, c5, rfl, hg5, hty5, hrd5, hb5⟩
            obtain ⟨nr, hnr⟩ : ∃ nr : RO, nr = ⟨ofL lk (P + (k : Int)), g, 32, c5⟩ := ⟨_, rfl⟩
            have hnc : onceC (P + (k : Int)) ((labV lk lKey 44).take 32) (.slice (some ⟨g, 32, none⟩) 12 c5) = nr.cells := by
              rw [hnr]; unfold RO.cells; rw [ofL_no, ofL_keyE]
            rw [hnc]
            have HNr := Lib.hid (show nr.At w5 by
              rw [hnr]
              exact ⟨ofL_key _ _, ofL_nonce _ _, hty5, by rw [ofL_nonceE]; exact rd_range hrd5⟩)
            have HNe := Lib.hid hnr
            have HNl := Lib.hid (show nr.cells.length = 34 from RO.len HNr.out)
            have HOw5 := Lib.hid (show (w5.alloc (.cells nr.cells.toArray 38)).ownsRow B0 38 34 (.slice A2 rs2.length c2) rs2.length (rs2.flatMap RO.cells) from
              rowS_below (rowS_below HOw.out hb5 (Nat.le_refl _)) ((Below.refl w5.heap.size w5).alloc (Nat.le_refl _) _) (Nat.le_refl _))
            have HB5 := Lib.hid hb5
            have hz5 := hb5.size
            have HG5 := Lib.hid (show w.heap.size ≤ g by omega)
            clear hnc hnr hrd5 hty5 hb5 HOf
            go_upto_region 17 with (first
              | (refine wpList_box_slice rfl 54 38 (.tmp 75) rfl ir (.agg zeroOnce.toArray) 34 nr.cells.toArray rfl (by simpa using HNl.out) (by decide) (by decide) Tryd.underlying54 hir hrz hrs rfl ?_)
              | (at_builtin; refine wpList_append_row rfl _ _ 54 rfl 34 (by decide) B0 38 ir (.agg zeroOnce.toArray) 64 Tryd.underlying54 hir hrz hrs hrb rfl _ _ _ rfl HOw5.out (w5.heap.size + 1) (some ⟨w5.heap.size, 0, none⟩) 1 1 nr.cells rfl (by rw [HNl.out]) (by decide) (rdV_new w5 38 nr.cells) (RO.one nr) (by unfold maxLen; omega) (by omega) (by simp; omega) ?_; intro v6 w6 hown6 hg6 hbb6))
            have hbk6 : Below B0 wr w6 := hbb6 B0 wr (Nat.le_refl _) ((HB5.out.mono hz3).alloc (by omega) _)
            have hbt6 : Below w.heap.size w w6 := hbb6 w.heap.size w (by omega) ((HB.out.trans (HB5.out.mono HB.out.size)).alloc (by omega) _)
            have HOw6 := Lib.hid (show w6.ownsRow B0 38 34 v6 (rs2 ++ [nr]).length ((rs2 ++ [nr]).flatMap RO.cells) by
              rw [List.length_append, List.flatMap_append]
              simpa using hown6)
            have HMp6 := Lib.hid (show (rs2 ++ [nr]).map RO.o = x.l.held ++ runL x.l.link P (k + 1) by
              rw [List.map_append, HMp.out, HNe.out, HLke.out, List.append_assoc]; rfl)
            have HAt6 := Lib.hid (show ∀ o ∈ rs2 ++ [nr], o.At w6 from fun o ho => by
              rcases List.mem_append.1 ho with h | h
              · exact (((HAt.out o h).below HB5.out (Nat.le_refl _)).alloc _).grew hg6 HOw5.out (by decide)
              · rw [List.mem_singleton] at h; subst h
                exact (HNr.out.alloc _).grew hg6 HOw5.out (by decide))
            have HRr6 := Lib.hid (show ∀ o ∈ rs2 ++ [nr], o.r ∈ x.rs.map RO.r ∨ w.heap.size ≤ o.r from fun o ho => by
              rcases List.mem_append.1 ho with h | h
              · exact HRr.out o h
              · rw [List.mem_singleton] at h; subst h
                rw [HNe.out]; exact .inr HG5.out)
            have HL6 := Lib.hid (HLn.out.below hbk6 (by omega))
            have HZ46 := Lib.hid (HZ4.out.below hbk6 (by omega))
            have HZ56 := Lib.hid (HZ5.out.below hbk6 (by omega))
            have HB6 := Lib.hid hbt6
            have hz6 : B0 ≤ w6.heap.size := Nat.le_trans hz3 hbk6.size
            obtain ⟨A6, c6, hv6, -, -, -, -⟩ := rowS_shape hown6
            subst hv6
            have HRl6 := Lib.hid (lineR_link w6 _ _ HLkl.out HL6.out)
            have hdv := refDerive_any w6 lk HLkl.out ⟨#[110, 101, 120, 116]⟩ lNext strNext (by decide)
            rw [arrV_mk, arrV_mk] at hdv
            have HDv := Lib.hid hdv
            have hrl6 : (rs2 ++ [nr]).length = rs2.length + 1 := by simp
            have HRl6' := Lib.hid hrl6
            clear hown6 hg6 hbb6 hbk6 hbt6 hdv HOw5 HNr HAt HOw HLn HZ4 HZ5 HRl hrl6
            go_wp2_with (refine wpList_load_mid rfl 23 (.tmp 78) rfl w.heap.size 0 rfl (lk.map b8) _ HRl6.out Tryd.underlying23 rfl HI32.out ?_)
            refine HDv.out.mono ?_
            rintro e w7 ⟨rfl, hb7⟩
            have HL7 := Lib.hid (HL6.out.below hb7 (by omega))
            have HZ47 := Lib.hid (HZ46.out.below hb7 (by omega))
            have HZ57 := Lib.hid (HZ56.out.below hb7 (by omega))
            have HOw7 := Lib.hid (rowS_below HOw6.out hb7 (Nat.le_refl _))
            have HAt7 := Lib.hid (show ∀ o ∈ rs2 ++ [nr], o.At w7 from fun o ho => (HAt6.out o ho).below hb7 (Nat.le_refl _))
            have HB7 := Lib.hid (HB6.out.trans (hb7.mono HB6.out.size))
            have hz7 : B0 ≤ w7.heap.size := Nat.le_trans hz6 hb7.size
            clear hb7 HL6 HZ46 HZ56 HOw6 HAt6 HRl6 HDv
            go_upto_region 18 with (refine wpList_store_piece rfl 23 (.tmp 81) (.tmp 80) rfl w.heap.size 0 rfl ((derV lk lNext).map b8) rfl 56 _ [] (lk.map b8) [.int .i64 (P + (k : Int)), HV, AV, .int .i64 Lw] HL7.out (lineR_eq _ _ _ _ _) rfl (by rw [List.length_map, List.length_map, HLkl.out, derV_len]) (by rw [List.length_map, derV_len]; exact size32) (fun u hu => by obtain ⟨y, -, rfl⟩ := List.mem_map.1 hu; exact b8_one y) ?_; intro w8 hx8 hg8)
            have HL8 := Lib.hid (show Blk w8 w.heap.size 56 (lineR (derV lk lNext) (P + (k : Int)) HV AV Lw) from hx8.cast (by unfold lineR; simp))
            have HZ48 := Lib.hid (HZ47.out.grown hg8 (fun e => by injection e with e; omega))
            have HZ58 := Lib.hid (HZ57.out.grown hg8 (fun e => by injection e with e; omega))
            have HOw8 := Lib.hid (rowS_kept' HOw7.out hg8 (fun q e e2 => by cases e; have := (World.ownsRow.lt HOw7.out _ e2).1; omega))
            have HAt8 := Lib.hid (show ∀ o ∈ rs2 ++ [nr], o.At w8 from fun o ho => (HAt7.out o ho).other hg8 HL7.out (by decide))
            have HB8 := Lib.hid (HB7.out.grown hg8 HB7.out.size (fun q e => by cases e; exact Nat.le_refl _))
            have hz8 : B0 ≤ w8.heap.size := Nat.le_trans hz7 hg8.size
            have hdl : (derV lk lNext).length = 32 := derV_len _ _
            have c32 := HL8.out.cell 32 (u := .int .i64 (P + (k : Int))) (lineR_32 hdl)
            have f32 := HL8.out.frozen 32
            have HDl := Lib.hid hdl
            have hPk : P + (k : Int) ≤ 4294967295 := by omega
            have hPk0 : 0 ≤ P + (k : Int) := by omega
            clear hx8 hg8 HL7 HZ47 HZ57 HOw7 HAt7 HB7 hdl
            go_wp2_with fail
            have hg9 := grownBy_set w8 w.heap.size 32 (.int .i64 (P + (k : Int) + 1))
            have e9 : P + ((k + 1 : Nat) : Int) = P + (k : Int) + 1 := by omega
            have hl9 : Blk (w8.setCell ⟨w.heap.size, 32, none⟩ (.int .i64 (P + (k : Int) + 1))) w.heap.size 56 (lineR (linkAt x.l.link (k + 1)) (P + ((k + 1 : Nat) : Int)) HV AV Lw) := by
              rw [e9, show linkAt x.l.link (k + 1) = derV lk lNext by rw [HLke.out]; rfl]
              exact (HL8.out.set_ 32 _).cast (lineR_set32 HDl.out _)
            have hown9 := rowS_kept' HOw8.out hg9 (fun q e e2 => by cases e; have := (World.ownsRow.lt HOw8.out _ e2).1; omega)
            refine ⟨⟨k + 1, rs2 ++ [nr], by omega, hown9, HMp6.out, fun o ho => (HAt8.out o ho).other hg9 HL8.out (by decide), HRr6.out, hl9, HZ48.out.grown hg9 (fun e => by injection e with e; omega), HZ58.out.grown hg9 (fun e => by injection e with e; omega), HB8.out.grown hg9 HB8.out.size (fun q e => by cases e; exact Nat.le_refl _), by simpa using hz8⟩, ?_⟩
            have hl2 := HLen.out
            simp [lenV] <;> omega
          · obtain rfl : K = k := by omega
            have hgt : ¬ (P + (K : Int) ≤ n) := fun h => by have := (HKn.out K).2 h; omega
            have hln' : Blk wr w.heap.size 56 (lineR lk (P + (K : Int)) HV (.slice x.aA m x.ac) Lw) := by rw [← HAVe.out]; exact HLn.out
            have HLn' := Lib.hid hln'
            have c34 := HLn'.out.cell 34 (lineR_34 HLkl.out)
            obtain ⟨B1, hB1⟩ : ∃ B1, B1 = wr.heap.size := ⟨_, rfl⟩
            have hB1a : B1 ≤ wr.heap.size := by omega
            have hB1c : wr.heap.size ≤ B1 := by omega
            have hB1b : B0 ≤ B1 := by omega
            have HAo := Lib.hid (show Own i64c (wr.alloc (.cells #[] 3)) B1 3 (.slice (some ⟨wr.heap.size, 0, none⟩) 0 0) [] from by
              have h := Own.lit i64c wr B1 3 [] hB1a (by simp)
              simpa using h)
            have HAs3 := Lib.hid (HAs.out.below (HB.out.alloc HB.out.size (.cells #[] 3)))
            have hm1000 := HMs.out
            clear hln' HLn
            have hBw0 : Below B1 wr (wr.alloc (.cells #[] 3)) := (Below.refl _ wr).alloc hB1a _
            have HBw0 := Lib.hid hBw0
            have hzr : w.heap.size < wr.heap.size := by omega
            clear hBw0
            go_upto_region 20 with (first
              | (at_builtin; refine wpList_append_rd rfl _ _ 43 rfl i64c_one B1 3 ii (.int .i64 0) 8 Tryd.underlying43 hii hiz his hib rfl _ _ rfl HAo.out w.heap.size x.aA m x.ac x.l.asked rfl HM.out HAs3.out (by have := HM.out; unfold maxLen; simp; omega) (by have := HM.out; simp; omega) (by simp; omega) ?_; intro va wa howna hga hbba
                 have HOna := Lib.hid howna
                 have HBwa := Lib.hid (show Below B1 wr (wa.alloc (.cells #[.int .i64 n] 3)) from (hbba B1 wr (Nat.le_refl _) HBw0.out).alloc (by have := (hbba B1 wr (Nat.le_refl _) HBw0.out).size; omega) _)
                 have hza : B1 ≤ wa.heap.size := by have := (hbba B1 wr (Nat.le_refl _) HBw0.out).size; omega
                 have hga' := hga
                 clear howna hga hbba)
              | (at_builtin; refine wpList_append_rd rfl _ _ 43 rfl i64c_one B1 3 ii (.int .i64 0) 8 Tryd.underlying43 hii hiz his hib rfl _ _ rfl (HOna.out.alloc (.cells #[.int .i64 n] 3)) (wa.heap.size + 1) (some ⟨wa.heap.size, 0, none⟩) 1 1 [n] rfl rfl (Rd.new i64c wa 3 [n]) (by have := HM.out; unfold maxLen; simp; omega) (by have := HM.out; simp; omega) (by simp; omega) ?_; intro vb wb hownb hgb hbbb
                 have HOnb := Lib.hid hownb
                 have HBwb := Lib.hid (hbbb B1 wr (Nat.le_refl _) HBwa.out)
                 have HLb := Lib.hid (HLn'.out.below HBwb.out (by omega))
                 have f34 := HLb.out.frozen 34
                 have c34 := HLb.out.cell 34 (lineR_34 HLkl.out)
                 obtain ⟨Ab, cb, hvb, -, -, -, -⟩ := hownb.shape' (n := m + 1) (by have := HM.out; simp; omega)
                 rw [hvb] at HOnb
                 subst hvb
                 clear hownb hgb hbbb hga'))
            obtain ⟨A2', c2', e2', hrd2, -, -, -⟩ := rowS_shape HOw.out
            injection e2' with e2a _ e2c
            subst e2a; subst e2c
            have hg34 := grownBy_set wb w.heap.size 34 (.slice Ab (m + 1) cb)
            obtain ⟨ws0, hws0⟩ : ∃ ws0, ws0 = wb.setCell ⟨w.heap.size, 34, none⟩ (.slice Ab (m + 1) cb) := ⟨_, rfl⟩
            rw [← hws0] at hg34 ⊢
            have hb1 : Below w.heap.size w wb := HB.out.trans (HBwb.out.mono (by omega))
            have hL0 : Blk ws0 w.heap.size 56 (lineR lk (P + (K : Int)) HV (.slice Ab (m + 1) cb) Lw) := by rw [hws0]; exact (HLb.out.set_ 34 _).cast (lineR_set34 HLkl.out _)
            have hZ40 : Blk ws0 (w.heap.size + 1) 38 zeroOnce := (HZ4.out.below HBwb.out (by omega)).grown hg34 (fun e => by injection e with e; omega)
            have hZ50 : Blk ws0 (w.heap.size + 2) 56 zeroRL := (HZ5.out.below HBwb.out (by omega)).grown hg34 (fun e => by injection e with e; omega)
            have hA0 : ∀ o ∈ rs2, o.At ws0 := fun o ho => ((HAt.out o ho).below HBwb.out hB1c).other hg34 HLb.out (by decide)
            have hI0 : Own i64c ws0 B1 3 (.slice Ab (m + 1) cb) (x.l.asked ++ [n]) := HOnb.out.kept' hg34 (fun q e e2 => by cases e; have := (HOnb.out.lt _ e2).1; omega)
            have hR0 : RdV ws0 B1 A2 (rs2.flatMap RO.cells) := (rd_wider (Rd.below hrd2 (HBwb.out.mono hB1c)) hB1c).grown hg34 (by have := HBwb.out.size; omega) (fun a ha e => by
              injection e with e
              subst ha
              obtain ⟨c9, h9⟩ : ∃ c9 : Nat, c9 = 0 := ⟨0, rfl⟩
              rcases (HOw.out).2 with ⟨e1, -⟩ | ⟨g', cap, cur, e1, hbg, -⟩
              · cases e1
              · injection e1 with e1 _ _
                injection e1 with e1
                rw [e1] at e
                have e9 : g' = w.heap.size := e
                omega)
            have hbs0 : Below w.heap.size w ws0 := hb1.grown hg34 hb1.size (fun q e => by cases e; exact Nat.le_refl _)
            have hzs0 : B1 ≤ ws0.heap.size := by have := HBwb.out.size; have := hg34.size; omega
            have HI1 := Lib.hid (hI0.rd)
            have HIsep := Lib.hid (show ∀ (b off : Nat), Ab = some ⟨b, off, none⟩ → B1 ≤ b from fun b off e => by
              subst e
              exact (hI0.lt b rfl).1)
            obtain ⟨g9, hg9⟩ : ∃ g9, g9 = ws0.heap.size := ⟨_, rfl⟩
            have HAlt := Lib.hid (show ∀ o ∈ rs2, o.r < g9 from fun o ho => by have := (hA0 o ho).lt; omega)
            obtain ⟨ws, hws⟩ : ∃ ws, ws = ws0.alloc (.cells zeroOnce.toArray 38) := ⟨_, rfl⟩
            have hal : Below g9 ws0 ws := by rw [hws, hg9]; exact (Below.refl _ ws0).alloc (Nat.le_refl _) _
            have HLs := Lib.hid (hL0.below hal (by omega))
            have HZ4s := Lib.hid (hZ40.below hal (by omega))
            have HZ5s := Lib.hid (hZ50.below hal (by omega))
            have HAs9 := Lib.hid (show ∀ o ∈ rs2, o.At ws from fun o ho => (hA0 o ho).below hal (by omega))
            have HIs := Lib.hid (show Rd i64c ws g9 Ab (x.l.asked ++ [n]) from (by rw [hg9] at hal ⊢; exact HI1.out.below hal))
            have HRs := Lib.hid (show RdV ws B1 A2 (rs2.flatMap RO.cells) from Rd.below hR0 (hal.mono (by omega)))
            have HBs := Lib.hid (show Below w.heap.size w ws from hbs0.trans (hal.mono (by omega)))
            have HO9 := Lib.hid (show Blk ws g9 38 (outC (pickR (rs2.take 0) n)) by rw [hws, hg9]; exact Blk.new _ _ _)
            have hzs : ws.heap.size = g9 + 1 := by rw [hws, hg9]; simp
            obtain ⟨B2, hB2⟩ : ∃ B2, B2 = ws.heap.size := ⟨_, rfl⟩
            have hB2a : B2 = g9 + 1 := by omega
            have hB2b : B2 ≤ ws.heap.size := by omega
            have hg9b : B1 ≤ g9 := by omega
            have HWs := Lib.hid hws
            have HG9 := Lib.hid hg9
            have hRO : ∀ r ∈ rs2, r.cells.length = 34 := fun r hr => RO.len (HAs9.out r hr)
            have HROl := Lib.hid hRO
            obtain ⟨tl, htl⟩ : ∃ tl, tl = takeL x.l n := ⟨_, rfl⟩
            have htok : LOK tl := by rw [htl]; exact takeL_ok HOk.out HE.out
            have htp : tl.place = P + (K : Int) := by
              have h := HKe.out
              rw [htl]
              show (if x.l.place ≤ n then n + 1 else x.l.place) = _
              rw [← HPe.out]
              split <;> omega
            have hHi2 : hiA (x.l.asked ++ [n]) Lw = P + (K : Int) - 1 := by
              have h := htok.hi
              rw [htp] at h
              rw [HLe.out, ← h, htl]; rfl
            have hPK1 : P + (K : Int) ≤ 4294967295 := by have := htok.top; omega
            have HHi2 := Lib.hid hHi2
            have HTl := Lib.hid htl
            have HTok := Lib.hid htok
            have HTp := Lib.hid htp
            obtain ⟨LC, hLC⟩ : ∃ LC, LC = lineR lk (P + (K : Int)) HV (.slice Ab (m + 1) cb) Lw := ⟨_, rfl⟩
            have HLCe := Lib.hid hLC
            have HLCl := Lib.hid (show LC.length = 36 by rw [hLC]; exact lineR_len HLkl.out)
            rw [← hLC] at HLs
            obtain ⟨hh, hhh⟩ : ∃ hh : Int, hh = P + (K : Int) - 1 := ⟨_, rfl⟩
            have hhh0 : -1 ≤ hh := by omega
            have hhh1 : hh ≤ 4294967295 := by omega
            have HHh := Lib.hid hhh
            have hasl : (x.l.asked ++ [n]).length = m + 1 := by rw [List.length_append, HM.out]; rfl
            have HAsl := Lib.hid hasl
            clear hws0 hg34 hb1 hL0 hZ40 hZ50 hA0 hI0 hR0 hbs0 hws hg9 hal hB2 hRO htl htok htp hHi2 hLC hhh hrd2 HAo HAs3 HBw0 HOna HBwa HOnb HBwb HLb f34 c34 HOw HAt HZ4 HZ5 HB HLn' HI1 hasl hzs hzs0 hzr hza
            go_upto_region 21 with fail
            have hws := HWs.out
            simp only [show zeroOnce.toArray = #[Value.int .i64 0, Value.int .u8 0, Value.int .u8 0, Value.int .u8 0, Value.int .u8 0, Value.int .u8 0, Value.int .u8 0, Value.int .u8 0, Value.int .u8 0, Value.int .u8 0, Value.int .u8 0, Value.int .u8 0, Value.int .u8 0, Value.int .u8 0, Value.int .u8 0, Value.int .u8 0, Value.int .u8 0, Value.int .u8 0, Value.int .u8 0, Value.int .u8 0, Value.int .u8 0, Value.int .u8 0, Value.int .u8 0, Value.int .u8 0, Value.int .u8 0, Value.int .u8 0, Value.int .u8 0, Value.int .u8 0, Value.int .u8 0, Value.int .u8 0, Value.int .u8 0, Value.int .u8 0, Value.int .u8 0, Value.slice none 0 0] from rfl] at hws
            rw [← hws, ← HG9.out]
            clear hws
            go_wp2_with fail
            go_loopw [10, 11] (fun rv iv wr => ∃ (k : Nat) (rs3 : List RO), iv = .int .i64 (k : Int) ∧ k ≤ rs2.length ∧ wr.ownsRow B2 38 34 rv rs3.length (rs3.flatMap RO.cells) ∧ (rs3.length = 0 → rv = .slice none 0 0) ∧ rs3 = (rs2.take k).filter (fun o => keepO n hh o.o) ∧ Blk wr g9 38 (outC (pickR (rs2.take k) n)) ∧ Below g9 ws wr ∧ B2 ≤ wr.heap.size) (fun _ iv _ => rs2.length - (intOf iv).toNat)
            case atStart => exact ⟨0, [], rfl, by omega, World.ownsRow_nil ws B2 _ 34, fun _ => rfl, by simp, HO9.out, Below.refl _ _, hB2b⟩
            case round =>
              clear HO9 hB2b
              obtain ⟨k, rs3, rfl, hk, hown, hnil, hfl, ho9, hbl, hzB⟩ := hrel
              obtain ⟨A3, c3, hrv, -, -, -, -⟩ := rowS_shape hown
              have HNil := Lib.hid hnil
              subst hrv
              have HOw := Lib.hid hown
              have HFl := Lib.hid hfl
              have HO9 := Lib.hid ho9
              have HBl := Lib.hid hbl
              have HLr := Lib.hid (HLs.out.below hbl (by omega))
              have hgw : ws.heap.size ≤ wr.heap.size := hbl.size
              clear hown hfl ho9 hbl hnil
              by_cases hlt : k < rs2.length
              · obtain ⟨x0, hx0⟩ : ∃ x0, rs2[k]? = some x0 := ⟨rs2[k], List.getElem?_eq_getElem hlt⟩
                have hx0m : x0 ∈ rs2 := List.mem_of_getElem? hx0
                have htk : rs2.take (k + 1) = rs2.take k ++ [x0] := by
                  rw [List.take_succ_eq_append_getElem hlt]
                  rw [List.getElem?_eq_getElem hlt] at hx0
                  rw [Option.some.inj hx0]
                obtain ⟨b, o0, hA2e, hbB, hrg⟩ := RdV.elem (Rd.below HRs.out (HBl.out.mono hg9b)) HROl.out (by decide) hx0
                rw [Nat.mul_comm] at hrg
                subst hA2e
                have HRg := Lib.hid hrg
                have HTk := Lib.hid htk
                have HXm := Lib.hid hx0m
                have HXl := Lib.hid (HROl.out x0 hx0m)
                have c0 := hrg 0 (.int .i64 x0.o.no) rfl
                rw [Nat.add_zero] at c0
                obtain ⟨no, hno⟩ : ∃ no, no = x0.o.no := ⟨_, rfl⟩
                rw [← hno] at c0
                have HNo := Lib.hid hno
                have hlk : (k : Int) < (rs2.length : Int) := by omega
                have hi34 : (Tryd.prog.info? 38).map (·.size) = some x0.cells.length := by rw [HXl.out]; exact sizeROnce
                have HI34 := Lib.hid hi34
                clear hx0 hrg htk hx0m hno hi34
                by_cases hx : no = n
                · have HOl := Lib.hid (show (outC (pickR (rs2.take k) n)).length = x0.cells.length by
                    rw [HXl.out]
                    cases hq : pickR (rs2.take k) n with
                    | none => rfl
                    | some r => exact HROl.out r (List.mem_of_mem_take ((pickR_o (rs2.take k) n).2.1 r hq).1))
                  go_wp2_with (first
                    | (refine wpList_load_mid rfl 38 (.tmp 109) rfl b (o0 + k * 34) rfl x0.cells _ HRg.out Tryd.underlying38 rfl HI34.out ?_)
                    | (refine wpList_store_piece rfl 38 (.tmp 9) (.tmp 110) rfl g9 0 rfl x0.cells rfl 38 _ [] (outC (pickR (rs2.take k) n)) [] HO9.out (by simp) rfl HOl.out HI34.out (RO.one x0) ?_; intro w9 hx9 hg9'))
                  go_roundw
                  case rel =>
                    refine ⟨k + 1, rs3, by go_num, by omega, rowS_kept' HOw.out hg9' (fun q e e2 => by cases e; have := (World.ownsRow.lt HOw.out _ e2).1; omega), HNil.out, ?_, ?_, HBl.out.grown hg9' (by omega) (fun q e => by cases e; exact Nat.le_refl _), by have := hg9'.size; omega⟩
                    · rw [HTk.out, List.filter_append, ← HFl.out, List.filter_cons, if_neg (by unfold keepO; rw [← HNo.out, hx]; simp), List.filter_nil, List.append_nil]
                    · rw [HTk.out, pickR_snoc, if_pos (by rw [← HNo.out]; exact hx)]
                      exact hx9.cast (by show _ = x0.cells; simp)
                  case measure => simp [intOf] <;> omega
                · have hx' : (no == n) = false := by simp [hx]
                  have hpk : pickR (rs2.take (k + 1)) n = pickR (rs2.take k) n := by rw [HTk.out, pickR_snoc, if_neg (by rw [← HNo.out]; exact hx)]
                  have hke : keepO n hh x0.o = decide (hh - 64 ≤ no) := by unfold keepO; rw [← HNo.out, hx']; simp
                  have HPk := Lib.hid hpk
                  have HKe2 := Lib.hid hke
                  clear hpk hke
                  have hbd : Below wr.heap.size wr wr.drew := (Below.refl _ wr).drew
                  have hH2 := refHi_any wr.drew lk HLkl.out (P + (K : Int)) Lw HV g9 Ab (m + 1) cb (x.l.asked ++ [n]) ((HIs.out.below HBl.out).below (hbd.mono (by omega))) (by have := hbd.size; omega) HAsl.out (by have := HMs.out; omega) hl0 (by omega)
                  rw [← HLCe.out, HHi2.out, ← HHh.out] at hH2
                  have HH2 := Lib.hid hH2
                  have HKeep := Lib.hid (show ∀ W' : World, Below wr.heap.size wr W' → W'.cell? ⟨b, o0 + k * 34, none⟩ = some (.int .i64 no) ∧ W'.rangeAt w.heap.size 0 LC from fun W' hb =>
                    ⟨by rw [← c0]; exact World.cell?_of_block (hb.block b (by omega)), (HLr.out.below hb (by omega)).whole⟩)
                  have hk27 := HKeep.out _ hbd
                  have HBd := Lib.hid hbd
                  have hu := Tryd.underlying56
                  have hi36 : (Tryd.prog.info? 56).map (·.size) = some LC.length := by rw [HLCl.out]; exact sizeRLine
                  have hwr : IntKind.i64.wrap (hh - 64) = hh - 64 := IntWalk.i64_in _ (by omega)
                  clear hH2 hbd
                  go_upto_region 27 with fail
                  refine wp_region_noPanic ?_
                  refine wp_region_held_drew (S := fun w' => w'.cell? ⟨b, o0 + k * 34, none⟩ = some (.int .i64 no) ∧ w'.rangeAt w.heap.size 0 LC) (by kernel_rfl) hk27 (fun hS => ?_)
                  refine wpAnyH_take (i := 0) (oi := { dst := some 111, op := _, type := _, pos := _, after := _, guard := _ }) (v := .slice (some ⟨b, o0, none⟩) rs2.length c2) rfl (by kernel_rfl) (by kernel_rfl) (by kernel_rfl) (fun _ _ _ h => h) (Or.inl ⟨by rfl, ?_⟩) hS ?_
                  · intro w' hw'
                    go_simp
                  try simp only [Act.put, List.setIfInBounds_toArray, List.set_cons_zero, List.set_cons_succ]
                  refine wpAnyH_take (i := 1) (oi := { dst := some 112, op := _, type := _, pos := _, after := _, guard := _ }) (v := .int .i64 (k : Int)) rfl (by kernel_rfl) (by kernel_rfl) (by kernel_rfl) (fun _ _ _ h => h) (Or.inl ⟨by rfl, ?_⟩) hS ?_
                  · intro w' hw'
                    go_simp
                  try simp only [Act.put, List.setIfInBounds_toArray, List.set_cons_zero, List.set_cons_succ]
                  refine wpAnyH_take (i := 2) (oi := { dst := some 113, op := _, type := _, pos := _, after := _, guard := _ }) (v := .pointer (some ⟨b, o0 + k * 34, none⟩)) rfl (by kernel_rfl) (by kernel_rfl) (by kernel_rfl) (fun _ _ _ h => h) (Or.inl ⟨by rfl, ?_⟩) hS ?_
                  · intro w' hw'
                    obtain ⟨s0, s1⟩ := hw'
                    go_simp
                  try simp only [Act.put, List.setIfInBounds_toArray, List.set_cons_zero, List.set_cons_succ]
                  refine wpAnyH_take (i := 3) (oi := { dst := some 114, op := _, type := _, pos := _, after := _, guard := _ }) (v := .pointer (some ⟨b, o0 + k * 34, none⟩)) rfl (by kernel_rfl) (by kernel_rfl) (by kernel_rfl) (fun _ _ _ h => h) (Or.inl ⟨by rfl, ?_⟩) hS ?_
                  · intro w' hw'
                    obtain ⟨s0, s1⟩ := hw'
                    go_simp
                  try simp only [Act.put, List.setIfInBounds_toArray, List.set_cons_zero, List.set_cons_succ]
                  refine wpAnyH_take (i := 4) (oi := { dst := some 115, op := _, type := _, pos := _, after := _, guard := _ }) (v := .int .i64 no) rfl (by kernel_rfl) (by kernel_rfl) (by kernel_rfl) (fun _ _ _ h => h) (Or.inl ⟨by rfl, ?_⟩) hS ?_
                  · intro w' hw'
                    obtain ⟨s0, s1⟩ := hw'
                    go_simp
                  try simp only [Act.put, List.setIfInBounds_toArray, List.set_cons_zero, List.set_cons_succ]
                  refine wpAnyH_take (i := 5) (oi := { dst := some 116, op := _, type := _, pos := _, after := _, guard := _ }) (v := .agg LC.toArray) rfl (by kernel_rfl) (by kernel_rfl) (by kernel_rfl) (fun _ _ _ h => h) (yieldsIf_load_mid (by rfl) 56 (.tmp 2) rfl w.heap.size 0 rfl LC _ (fun _ h => h.2) hu rfl hi36) hS ?_
                  try simp only [Act.put, List.setIfInBounds_toArray, List.set_cons_zero, List.set_cons_succ]
                  refine wpAnyH_ready (rs := [6]) (by kernel_rfl) (by simp) (AllReadyH.cons (o := { dst := some 117, op := _, type := _, pos := _, after := _, guard := _ }) rfl (fun K' hK => ?_) AllReadyH.nil)
                  go_simp
                  go_at_call 38
                  refine HH2.out.mono ?_
                  rintro e wA ⟨rfl, hbA⟩
                  have HQ := Lib.hid (show Below wr.heap.size wr wA from HBd.out.trans (hbA.mono HBd.out.size))
                  clear hbA
                  refine hK.out _ _ (HKeep.out _ HQ.out) (fun hS => ?_)
                  clear hK K'
                  try simp only [Act.put, List.setIfInBounds_toArray, List.set_cons_zero, List.set_cons_succ]
                  refine wpAnyH_ready (rs := [7]) (by kernel_rfl) (by simp) (AllReadyH.cons (o := { dst := some 118, op := _, type := _, pos := _, after := _, guard := _ }) rfl (fun K' hK => ?_) AllReadyH.nil)
                  go_simp
                  refine hK.out _ _ (HKeep.out _ HQ.out) (fun hS => ?_)
                  clear hK K'
                  try simp only [Act.put, List.setIfInBounds_toArray, List.set_cons_zero, List.set_cons_succ]
                  refine wpAnyH_ready (rs := [8]) (by kernel_rfl) (by simp) (AllReadyH.cons (o := { dst := some 119, op := _, type := _, pos := _, after := _, guard := _ }) rfl (fun K' hK => ?_) AllReadyH.nil)
                  go_simp
                  refine hK.out _ _ (HKeep.out _ HQ.out) (fun hS => ?_)
                  clear hK K'
                  try simp only [Act.put, List.setIfInBounds_toArray, List.set_cons_zero, List.set_cons_succ]
                  refine wpAnyH_done (by kernel_rfl) ?_ _
                  refine NoPanic.normal ?_
                  have HW := HQ.out
                  have HOwA := Lib.hid (rowS_below HOw.out HW (Nat.le_refl _))
                  have HO9A := Lib.hid (HO9.out.below HW (by omega))
                  have HBlA := Lib.hid (HBl.out.trans (HW.mono (by omega)))
                  have HRgA := Lib.hid (show wA.rangeAt b (o0 + k * 34) x0.cells from fun j u hu => by rw [← HRg.out j u hu]; exact World.cell?_of_block (HW.block b (by omega)))
                  have hzA : B2 ≤ wA.heap.size := Nat.le_trans hzB HW.size
                  clear HW HQ hk27 hu hi36 HKeep HBd HH2
                  by_cases hkp : hh - 64 ≤ no
                  · have hkp' : no ≥ hh - 64 := hkp
                    have hzl3 : rs3.length ≤ 400 := by
                      have h := congrArg List.length HFl.out
                      have h2 := List.length_filter_le (fun o : RO => keepO n hh o.o) (rs2.take k)
                      have h3 := List.length_take_le k rs2
                      omega
                    have HOwB := Lib.hid (show (wA.alloc (.cells x0.cells.toArray 38)).ownsRow B2 38 34 (.slice A3 rs3.length c3) rs3.length (rs3.flatMap RO.cells) from rowS_below HOwA.out ((Below.refl wA.heap.size wA).alloc (Nat.le_refl _) _) (Nat.le_refl _))
                    go_wp2_with (first
                      | (refine wpList_load_mid rfl 38 (.tmp 123) rfl b (o0 + k * 34) rfl x0.cells _ HRgA.out Tryd.underlying38 rfl HI34.out ?_)
                      | (refine wpList_box_slice rfl 54 38 (.tmp 124) rfl ir (.agg zeroOnce.toArray) 34 x0.cells.toArray rfl (by simpa using HXl.out) (by decide) (by decide) Tryd.underlying54 hir hrz hrs rfl ?_)
                      | (at_builtin; refine wpList_append_row rfl _ _ 54 rfl 34 (by decide) B2 38 ir (.agg zeroOnce.toArray) 64 Tryd.underlying54 hir hrz hrs hrb rfl _ _ _ rfl HOwB.out (wA.heap.size + 1) (some ⟨wA.heap.size, 0, none⟩) 1 1 x0.cells rfl (by rw [HXl.out]) (by decide) (rdV_new wA 38 x0.cells) (RO.one x0) (by unfold maxLen; omega) (by omega) (by simp; omega) ?_; intro v6 w6 hown6 hg6 hbb6))
                    have hbk6 : Below B2 wA w6 := hbb6 B2 wA (Nat.le_refl _) ((Below.refl _ wA).alloc hzA _)
                    go_roundw
                    case rel =>
                      refine ⟨k + 1, rs3 ++ [x0], by go_num, by omega, ?_, fun e => by simp at e, ?_, ?_, HBlA.out.trans (hbk6.mono (by omega)), Nat.le_trans hzA hbk6.size⟩
                      · rw [List.length_append, List.flatMap_append]
                        simpa using hown6
                      · rw [HTk.out, List.filter_append, ← HFl.out, List.filter_cons, if_pos (by rw [HKe2.out]; simp [hkp]), List.filter_nil]
                      · rw [HPk.out]; exact HO9A.out.below hbk6 (by omega)
                    case measure => simp [intOf] <;> omega
                  · have hkp' : ¬ (no ≥ hh - 64) := hkp
                    have hkp2 : decide (hh - 64 ≤ no) = false := by simp; omega
                    go_wp2_with fail
                    go_roundw
                    case rel =>
                      refine ⟨k + 1, rs3, by go_num, by omega, HOwA.out, HNil.out, ?_, ?_, HBlA.out, hzA⟩
                      · rw [HTk.out, List.filter_append, ← HFl.out, List.filter_cons, if_neg (by rw [HKe2.out, hkp2]; decide), List.filter_nil, List.append_nil]
                      · rw [HPk.out]; exact HO9A.out
                    case measure => simp [intOf] <;> omega
              · obtain rfl : k = rs2.length := by omega
                have htk : rs2.take rs2.length = rs2 := List.take_of_length_le (Nat.le_refl _)
                rw [htk] at HFl HO9
                have hmap : rs2.map RO.o = heldTo x.l n := by
                  rw [HMp.out]
                  unfold heldTo
                  rw [← HPe.out, ← HKe.out]
                obtain ⟨hp1, hp2, hp3⟩ := pickR_o rs2 n
                obtain ⟨r, hr⟩ := hp3 (by
                  obtain ⟨o, ho, he⟩ := heldTo_has HOk.out HE.out
                  rw [← hmap] at ho
                  obtain ⟨q, hq, rfl⟩ := List.mem_map.1 ho
                  exact ⟨q, hq, he⟩)
                obtain ⟨hrm, hrn⟩ := hp2 r hr
                have hro : r.o = takeO x.l n := by
                  unfold takeO
                  rw [if_pos HE.out, ← hmap, hp1, hr]; rfl
                have HRo := Lib.hid hro
                have HRn := Lib.hid hrn
                have HRt := Lib.hid (show r.At wr from (HAs9.out r hrm).of HBl.out.size (HBl.out.block _ (HAlt.out r hrm)))
                have HRl := Lib.hid (RO.len HRt.out)
                rw [hr] at HO9
                have c33 := HLr.out.cell 33 (u := HV) (by rw [HLCe.out]; exact lineR_33 HLkl.out)
                have f33 := HLr.out.frozen 33
                have HAtR := Lib.hid (show ∀ o ∈ rs3, o.At wr from fun o ho => by
                  rw [HFl.out] at ho
                  have hm := (List.mem_filter.1 ho).1
                  exact (HAs9.out o hm).of HBl.out.size (HBl.out.block _ (HAlt.out o hm)))
                have HZ4r := Lib.hid (HZ4s.out.below HBl.out (by omega))
                have HZ5r := Lib.hid (HZ5s.out.below HBl.out (by omega))
                have HBr := Lib.hid (HBs.out.trans (HBl.out.mono (by omega)))
                have HIr := Lib.hid (HIs.out.below HBl.out)
                have hzr : w.heap.size < wr.heap.size := by omega
                have HMap := Lib.hid hmap
                have HRm := Lib.hid hrm
                clear htk hmap hp1 hp2 hp3 hr hrm hrn hro
                go_upto_region 30 with fail
                have hg33 := grownBy_set wr w.heap.size 33 (.slice A3 rs3.length c3)
                have hLf : Blk (wr.setCell ⟨w.heap.size, 33, none⟩ (.slice A3 rs3.length c3)) w.heap.size 56 (lineR lk (P + (K : Int)) (.slice A3 rs3.length c3) (.slice Ab (m + 1) cb) Lw) := by
                  have h := HLr.out
                  rw [HLCe.out] at h
                  exact (h.set_ 33 _).cast (lineR_set33 HLkl.out _)
                obtain ⟨wf, hwf⟩ : ∃ wf, wf = wr.setCell ⟨w.heap.size, 33, none⟩ (.slice A3 rs3.length c3) := ⟨_, rfl⟩
                rw [← hwf] at hg33 hLf ⊢
                obtain ⟨FC, hFC⟩ : ∃ FC, FC = lineR lk (P + (K : Int)) (.slice A3 rs3.length c3) (.slice Ab (m + 1) cb) Lw := ⟨_, rfl⟩
                rw [← hFC] at hLf
                have HFC := Lib.hid hFC
                have HFl36 := Lib.hid (show FC.length = 36 by rw [hFC]; exact lineR_len HLkl.out)
                have HF1 := Lib.hid (show ∀ u ∈ FC, u.oneCell' = true by rw [hFC]; exact lineR_one rfl rfl)
                have HXf := Lib.hid hLf
                have hltO := (World.ownsRow.lt HOw.out)
                have HO9f := Lib.hid (show Blk wf g9 38 r.cells from HO9.out.grown hg33 (fun e => by injection e with e; omega))
                have HZ4f := Lib.hid (HZ4r.out.grown hg33 (fun e => by injection e with e; omega))
                have HZ5f := Lib.hid (HZ5r.out.grown hg33 (fun e => by injection e with e; omega))
                have HBf := Lib.hid (HBr.out.grown hg33 HBr.out.size (fun q e => by cases e; exact Nat.le_refl _))
                have HOwf := Lib.hid (rowS_kept' HOw.out hg33 (fun q e e2 => by cases e; have := (hltO _ e2).1; omega))
                have HAtf := Lib.hid (show ∀ o ∈ rs3, o.At wf from fun o ho => (HAtR.out o ho).other hg33 HLr.out (by decide))
                have HRtf := Lib.hid (HRt.out.other hg33 HLr.out (by decide))
                have HIf := Lib.hid (show Rd i64c wf g9 Ab (x.l.asked ++ [n]) from HIr.out.grown hg33 (by omega) (fun a ha e => by
                  injection e with e
                  obtain ⟨b9, off9, e9, hb9, hc9⟩ := HIr.out (by simp)
                  rw [ha] at e9; injection e9 with e9
                  have hcell := hc9 0 ((x.l.asked ++ [n])[0]'(by simp)) (List.getElem?_eq_getElem _)
                  rw [e9] at e
                  have e10 : b9 = w.heap.size := e
                  exact absurd (HIsep.out b9 off9 (by rw [ha, e9])) (by omega)))
                have hszf : wr.heap.size ≤ wf.heap.size := hg33.size
                have hkf : wf.drew.rangeAt w.heap.size 0 FC ∧ wf.drew.rangeAt g9 0 r.cells := ⟨HXf.out.drew.whole, HO9f.out.drew.whole⟩
                have hu := Tryd.underlying56
                have hu2 := Tryd.underlying38
                have hi36 : (Tryd.prog.info? 56).map (·.size) = some FC.length := by rw [HFl36.out]; exact sizeRLine
                have hi34 : (Tryd.prog.info? 38).map (·.size) = some r.cells.length := by rw [HRl.out]; exact sizeROnce
                clear hwf hg33 hLf hFC c33 f33
                refine wp_region_noPanic ?_
                refine wp_region_held_drew (S := fun w' => w'.rangeAt w.heap.size 0 FC ∧ w'.rangeAt g9 0 r.cells) (by kernel_rfl) hkf (fun hS => ?_)
                refine wpAnyH_take (i := 0) (oi := { dst := some 129, op := _, type := _, pos := _, after := _, guard := _ }) (v := .agg r.cells.toArray) rfl (by kernel_rfl) (by kernel_rfl) (by kernel_rfl) (fun _ _ _ h => h) (yieldsIf_load_mid (by rfl) 38 (.tmp 9) rfl g9 0 rfl r.cells _ (fun _ h => h.2) hu2 rfl hi34) hS ?_
                try simp only [Act.put, List.setIfInBounds_toArray, List.set_cons_zero, List.set_cons_succ]
                refine wpAnyH_take (i := 1) (oi := { dst := some 130, op := _, type := _, pos := _, after := _, guard := _ }) (v := .agg FC.toArray) rfl (by kernel_rfl) (by kernel_rfl) (by kernel_rfl) (fun _ _ _ h => h) (yieldsIf_load_mid (by rfl) 56 (.tmp 2) rfl w.heap.size 0 rfl FC _ (fun _ h => h.1) hu rfl hi36) hS ?_
                try simp only [Act.put, List.setIfInBounds_toArray, List.set_cons_zero, List.set_cons_succ]
                refine wpAnyH_ready (rs := [2]) (by kernel_rfl) (by simp) (AllReadyH.cons (o := { dst := none, op := _, type := _, pos := _, after := _, guard := _ }) rfl (fun K' hK => ?_) AllReadyH.nil)
                rw [if_pos (by rfl)]
                refine wp_store_piece 38 (.tmp 4) (.tmp 129) rfl (w.heap.size + 1) 0 rfl r.cells rfl _ _ [] zeroOnce [] HZ4f.out.drew (by simp) rfl (by rw [HRl.out]; rfl) hi34 (RO.one r) ?_
                intro w6 hx6 hg6
                have HX6 := Lib.hid (show Blk w6 (w.heap.size + 1) 38 r.cells from hx6.cast (by simp))
                have HL6 := Lib.hid (HXf.out.drew.grown hg6 (fun e => by injection e with e; omega))
                have HP6 := Lib.hid (HO9f.out.drew.grown hg6 (fun e => by injection e with e; omega))
                have HZ6 := Lib.hid (HZ5f.out.drew.grown hg6 (fun e => by injection e with e; omega))
                have HB6 := Lib.hid (HBf.out.drew.grown hg6 HBf.out.size (fun k e => by cases e; omega))
                have HG6 := Lib.hid (show wf.grownBy w6 (some (w.heap.size + 1)) from ⟨hg6.os, hg6.tape, hg6.output, hg6.size, hg6.block⟩)
                clear hx6 hg6
                refine hK.out _ _ (⟨HL6.out.whole, HP6.out.whole⟩) (fun hS => ?_)
                clear hK K'
                try simp only [Act.put, List.setIfInBounds_toArray, List.set_cons_zero, List.set_cons_succ]
                refine wpAnyH_ready (rs := [3]) (by kernel_rfl) (by simp) (AllReadyH.cons (o := { dst := none, op := _, type := _, pos := _, after := _, guard := _ }) rfl (fun K' hK => ?_) AllReadyH.nil)
                rw [if_pos (by rfl)]
                refine wp_store_piece 56 (.tmp 5) (.tmp 130) rfl (w.heap.size + 2) 0 rfl FC rfl _ _ [] zeroRL [] HZ6.out (by simp) rfl (by rw [HFl36.out]; rfl) hi36 HF1.out ?_
                intro w7 hx7 hg7
                have HX7 := Lib.hid (show Blk w7 (w.heap.size + 2) 56 FC from hx7.cast (by simp))
                have HY7 := Lib.hid (HX6.out.grown hg7 (fun e => by injection e with e; omega))
                have HL7 := Lib.hid (HL6.out.grown hg7 (fun e => by injection e with e; omega))
                have HP7 := Lib.hid (HP6.out.grown hg7 (fun e => by injection e with e; omega))
                have HB7 := Lib.hid (HB6.out.grown hg7 HB6.out.size (fun k e => by cases e; omega))
                have HG7 := Lib.hid hg7
                clear hx7 hg7
                refine hK.out _ _ (⟨HL7.out.whole, HP7.out.whole⟩) (fun hS => ?_)
                clear hK K'
                try simp only [Act.put, List.setIfInBounds_toArray, List.set_cons_zero, List.set_cons_succ]
                refine wpAnyH_ready (rs := [4]) (by kernel_rfl) (by simp) (AllReadyH.cons (o := { dst := some 6, op := _, type := _, pos := _, after := _, guard := _ }) rfl (fun K' hK => ?_) AllReadyH.nil)
                go_simp
                refine hK.out _ _ (⟨HL7.out.whole, HP7.out.whole⟩) (fun hS => ?_)
                clear hK K'
                try simp only [Act.put, List.setIfInBounds_toArray, List.set_cons_zero, List.set_cons_succ]
                refine wpAnyH_done (by kernel_rfl) ?_ _
                refine NoPanic.normal ?_
                go_wp2_with fail
                refine bodyPost_ret (v := .tuple #[.agg r.cells.toArray, .agg FC.toArray, .int .i64 0]) (results_blk2_tmp (g := w.heap.size + 1) (g2 := w.heap.size + 2) rfl _ _ _ _ _ _ _ _ _ rfl rfl rfl HY7.out HX7.out Tryd.underlying38 rfl (by rw [HRl.out]; exact sizeROnce) Tryd.underlying56 rfl (by rw [HFl36.out]; exact sizeRLine)) rfl ?_
                have HGa := Lib.hid (show wf.grownBy w7 none → True from fun _ => trivial)
                have toW7 : ∀ q, q < wf.heap.size → q ≠ w.heap.size + 1 → q ≠ w.heap.size + 2 → w7.heap[q]? = wf.heap[q]? := fun q hq h1 h2 => by
                  rw [HG7.out.block q (by have := HG6.out.size; omega) (fun e => by injection e with e; exact h2 e)]
                  exact HG6.out.block q hq (fun e => by injection e with e; exact h1 e)
                have hsz7 : wf.heap.size ≤ w7.heap.size := Nat.le_trans HG6.out.size HG7.out.size
                have ty4 := HZ4f.out
                have ty5 := HZ5f.out
                have keepRO : ∀ o : RO, o.At wf → o.At w7 := fun o ho => ho.of hsz7 (toW7 _ ho.lt (fun e => by
                  obtain ⟨cs, hc⟩ := ho.ty
                  have h3 : wf.heap[w.heap.size + 1]? = some (.cells zeroOnce.toArray 38 (0, 0)) := ty4
                  rw [e, h3] at hc
                  injection hc with hc
                  injection hc with _ hT
                  exact absurd hT (by decide)) (fun e => by
                  obtain ⟨cs, hc⟩ := ho.ty
                  have h3 : wf.heap[w.heap.size + 2]? = some (.cells zeroRL.toArray 56 (0, 0)) := ty5
                  rw [e, h3] at hc
                  injection hc with hc
                  injection hc with _ hT
                  exact absurd hT (by decide)))
                have hnone3 : rs3.length = 0 → A3 = none ∧ c3 = 0 := fun e => by
                  have h := HNil.out e
                  injection h with h1 _ h3
                  exact ⟨h1, h3⟩
                have hrow7 : RdV w7 w7.heap.size A3 (rs3.flatMap RO.cells) := by
                  obtain ⟨A4, c4, e4, hr4, -, -, -⟩ := rowS_shape HOwf.out
                  injection e4 with e4 _ _
                  subst e4
                  intro hpos
                  obtain ⟨b4, o4, e5, hb4, hc4⟩ := hr4 hpos
                  have hb4' := (hltO b4 (by rw [e5]; rfl)).1
                  exact ⟨b4, o4, e5, by omega, fun j u hu => by rw [← hc4 j u hu]; exact World.cell?_of_block (toW7 b4 hb4 (by omega) (by omega))⟩
                have hask7 : Rd i64c w7 w7.heap.size Ab (x.l.asked ++ [n]) := by
                  intro hpos
                  obtain ⟨b4, o4, e5, hb4, hc4⟩ := HIf.out hpos
                  have hb4' := HIsep.out b4 o4 e5
                  exact ⟨b4, o4, e5, by omega, fun j u hu => by rw [← hc4 j u hu]; exact World.cell?_of_block (toW7 b4 (by omega) (by omega) (by omega))⟩
                have htl := HTl.out
                have e1 : tl.link = lk := by
                  rw [htl]
                  show linkAt x.l.link (n + 1 - x.l.place).toNat = lk
                  rw [← HPe.out, ← HKe.out, HLke.out]
                have e2 : tl.asked = x.l.asked ++ [n] := by rw [htl]; rfl
                have e3 : tl.low = Lw := by rw [htl, HLe.out]; rfl
                have e4 : rs3.map RO.o = tl.held := by
                  rw [htl]
                  show _ = (heldTo x.l n).filter (keepO n (hiA (x.l.asked ++ [n]) x.l.low))
                  rw [← HMap.out, HFl.out, ← HLe.out, HHi2.out, ← HHh.out, List.filter_map]
                  rfl
                refine ⟨fun h => absurd HE.out h, fun _ => ⟨r.r, r.off, r.c, ⟨tl, rs3, A3, c3, Ab, cb⟩, ?_, htl, ⟨HTok.out, e4, hrow7, hnone3, fun o ho => keepRO o (HAtf.out o ho), by rw [e2]; exact hask7⟩, ?_, fun o ho => ?_, fun b off e => ?_, fun b off e => ?_, HRr.out r HRm.out⟩, HB7.out⟩
                · have ef : FC = RL.cells ⟨tl, rs3, A3, c3, Ab, cb⟩ := by
                    unfold RL.cells
                    rw [HFC.out, e1, HTp.out, e2, e3, HAsl.out]
                  have er : r.cells = onceC n (takeO x.l n).key (.slice (some ⟨r.r, r.off, none⟩) 12 r.c) := by
                    unfold RO.cells
                    rw [HRn.out, HRo.out]
                  rw [ef, er]
                · have h := keepRO r HRtf.out
                  rw [← HRo.out]
                  exact ⟨h.key, h.nn, h.ty, h.rd⟩
                · rw [HFl.out] at ho
                  exact HRr.out o (List.mem_filter.1 ho).1
                · have e' : A3 = some ⟨b, off, none⟩ := e
                  rcases HOwf.out.2 with ⟨e6, -⟩ | ⟨g', cap, cur, e6, hbg, -⟩
                  · injection e6 with e6 _ _
                    rw [e6] at e'; cases e'
                  · injection e6 with e6 _ _
                    rw [e6] at e'; injection e' with e'; injection e' with e' _ _
                    omega
                · have := HIsep.out b off e
                  omega
end Go.Proofs.YtmncihhofppkdaaDoor
