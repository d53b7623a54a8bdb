/- PLAIN LEMMAS: a proposal's cells and bytes. CONTRACTS: wire.proposal, wire.PutProposal. -/
import Derived.Test.YtloglpamnalmeaaInfD
import Derived.Test.YtloglpamnalmeaaBlank
namespace Go.Proofs.Ytloglpamnalmeaa
open Go.RowKit
set_option linter.unusedVariables false
set_option linter.unusedSimpArgs false

/-- what a proposal says -/
structure PropD where
  grp : List (BitVec 8)
  ep : Int
  frm : Int
  base : List (BitVec 8)
  kind : Int
  leaf : NodeD
  start : List (BitVec 8)
  at_ : Int
  sig : List (BitVec 8)
structure PropD.Ok (x : PropD) : Prop where
  grp : x.grp.length = 32
  base : x.base.length = 32
  start : x.start.length = 32
  sig : x.sig.length = 64
  leaf : x.leaf.Ok
  ep : (Lit.int .i64 x.ep).wf = true
  frm : (Lit.int .i64 x.frm).wf = true
  kind : (Lit.int .i64 x.kind).wf = true
  at_ : (Lit.int .i64 x.at_).wf = true
def propC (x : PropD) (A : Option Addr) (c : Nat) : List Value := x.grp.map b8 ++ (.int .i64 x.ep :: .int .i64 x.frm :: (x.base.map b8 ++ (.int .i64 x.kind :: (nodeC x.leaf A c ++ (x.start.map b8 ++ (.int .i64 x.at_ :: x.sig.map b8))))))
section
variable {w : World} {g : Nat} {T : TypeId} {x : PropD} {A : Option Addr} {c : Nat}
theorem propC_len (h : x.Ok) (A : Option Addr) (c : Nat) : (propC x A c).length = 263 := by simp [propC, h.grp, h.base, h.start, h.sig, nodeC_len h.leaf]
theorem propC_one (x : PropD) (A : Option Addr) (c : Nat) : ∀ u ∈ propC x A c, u.oneCell' = true := by
  intro u hu
  simp only [propC, List.mem_append, List.mem_map, List.mem_cons] at hu
  rcases hu with ⟨y, -, rfl⟩ | rfl | rfl | ⟨y, -, rfl⟩ | rfl | h | ⟨y, -, rfl⟩ | rfl | ⟨y, -, rfl⟩
  all_goals first | exact nodeC_one _ _ _ u h | rfl
theorem propC_grp (h : Blk w g T (propC x A c)) (hx : x.Ok) : w.rangeAt g 0 (x.grp.map b8) := h.piece (pre := []) rfl rfl
theorem propC_ep (h : Blk w g T (propC x A c)) (hx : x.Ok) : w.cell? ⟨g, 32, none⟩ = some (.int .i64 x.ep) := h.one (pre := x.grp.map b8) rfl (by simp [hx.grp])
theorem propC_frm (h : Blk w g T (propC x A c)) (hx : x.Ok) : w.cell? ⟨g, 33, none⟩ = some (.int .i64 x.frm) := h.one (pre := x.grp.map b8 ++ [.int .i64 x.ep]) (post := x.base.map b8 ++ (.int .i64 x.kind :: (nodeC x.leaf A c ++ (x.start.map b8 ++ (.int .i64 x.at_ :: x.sig.map b8))))) (by simp [propC]) (by simp [hx.grp])
theorem propC_base (h : Blk w g T (propC x A c)) (hx : x.Ok) : w.rangeAt g 34 (x.base.map b8) := h.piece (pre := x.grp.map b8 ++ [.int .i64 x.ep, .int .i64 x.frm]) (post := .int .i64 x.kind :: (nodeC x.leaf A c ++ (x.start.map b8 ++ (.int .i64 x.at_ :: x.sig.map b8)))) (by simp [propC]) (by simp [hx.grp])
theorem propC_kind (h : Blk w g T (propC x A c)) (hx : x.Ok) : w.cell? ⟨g, 66, none⟩ = some (.int .i64 x.kind) := h.one (pre := x.grp.map b8 ++ (.int .i64 x.ep :: .int .i64 x.frm :: x.base.map b8)) (post := nodeC x.leaf A c ++ (x.start.map b8 ++ (.int .i64 x.at_ :: x.sig.map b8))) (by simp [propC]) (by simp [hx.grp, hx.base])
theorem propC_leaf (h : Blk w g T (propC x A c)) (hx : x.Ok) : w.rangeAt g 67 (nodeC x.leaf A c) := h.piece (pre := x.grp.map b8 ++ (.int .i64 x.ep :: .int .i64 x.frm :: (x.base.map b8 ++ [.int .i64 x.kind]))) (post := x.start.map b8 ++ (.int .i64 x.at_ :: x.sig.map b8)) (by simp [propC]) (by simp [hx.grp, hx.base])
theorem propC_start (h : Blk w g T (propC x A c)) (hx : x.Ok) : w.rangeAt g 166 (x.start.map b8) := h.piece (pre := x.grp.map b8 ++ (.int .i64 x.ep :: .int .i64 x.frm :: (x.base.map b8 ++ (.int .i64 x.kind :: nodeC x.leaf A c)))) (post := .int .i64 x.at_ :: x.sig.map b8) (by simp [propC]) (by simp [hx.grp, hx.base, nodeC_len hx.leaf])
theorem propC_at (h : Blk w g T (propC x A c)) (hx : x.Ok) : w.cell? ⟨g, 198, none⟩ = some (.int .i64 x.at_) := h.one (pre := x.grp.map b8 ++ (.int .i64 x.ep :: .int .i64 x.frm :: (x.base.map b8 ++ (.int .i64 x.kind :: (nodeC x.leaf A c ++ x.start.map b8))))) (post := x.sig.map b8) (by simp [propC]) (by simp [hx.grp, hx.base, hx.start, nodeC_len hx.leaf])
theorem propC_sig (h : Blk w g T (propC x A c)) (hx : x.Ok) : w.rangeAt g 199 (x.sig.map b8) := h.piece (pre := x.grp.map b8 ++ (.int .i64 x.ep :: .int .i64 x.frm :: (x.base.map b8 ++ (.int .i64 x.kind :: (nodeC x.leaf A c ++ (x.start.map b8 ++ [.int .i64 x.at_])))))) (post := []) (by simp [propC]) (by simp [hx.grp, hx.base, hx.start, nodeC_len hx.leaf])
end
theorem infoProp : (Try.prog.info? 71).map (·.size) = some 263 := by kernel_rfl
/-- the zero proposal -/
def zProp : PropD := ⟨zero32, 0, 0, zero32, 0, zNode, zero32, 0, List.replicate 64 0#8⟩
def kindBad (x : PropD) : Bool :=
  if x.kind = 1 then nodeBad x.leaf || !(x.at_ == 0)
  else if x.kind = 2 then nodeBad x.leaf || !(x.start == zero32) || !(x.at_ == 0)
  else if x.kind = 3 then outOf x.at_ 31 || !zeroN x.leaf || !(x.start == zero32)
  else true
def midB (x : PropD) : List (BitVec 8) :=
  if x.kind = 1 then nodeB x.leaf ++ x.start
  else if x.kind = 2 then nodeB x.leaf
  else if x.kind = 3 then be x.at_ 1
  else []
def propBad (x : PropD) : Bool := outOf x.ep 4294967295 || outOf x.frm 31 || kindBad x
def propB (x : PropD) : List (BitVec 8) := groupB x.grp x.ep x.frm ++ (x.base ++ (be x.kind 1 ++ (midB x ++ x.sig)))
theorem kind_out {x : PropD} (h : outOf x.kind 3 = true) : kindBad x = true := by
  unfold outOf at h
  simp at h
  unfold kindBad
  rw [if_neg (by omega), if_neg (by omega), if_neg (by omega)]
theorem kind_out' (x : PropD) : (outOf x.kind 3 || kindBad x) = kindBad x := by
  cases h : outOf x.kind 3 with
  | true => rw [kind_out h]; rfl
  | false => rfl
/-- the store of what a pen's bad was, or more -/
theorem oth_box {w w' : World} (o : Obj) (h : Oth (w.alloc o) w') : Oth w w' := fun k T cs a b c => h k T cs a b (c.alloc o)

theorem run_build_none {P : Program} {t : TypeId} {cells : Array Value} {op : Oper} (ho : op.op = .build t #[]) (hb : P.built t [] = some cells) (ρ : Operand → Value) (w : World) :
    (execOp ρ op).run P w = .ok (.value (.agg cells)) w := by
  have hr := run_build (P := P) w t #[] cells hb
  unfold execOp
  simp only [ho, Array.map_empty, Sem.run_bind, Sem.run_pure, Result.andThen_ok, hr]
set_option maxRecDepth 100000 in
set_option maxHeartbeats 4000000 in
theorem proposalO_any {w : World} {B g : Nat} {xs : List (BitVec 8)} {bad : Bool} (hP : Pen w B g xs bad) (x : PropD) (hx : x.Ok) {B' : Nat} {A : Option Addr} {c : Nat} (hr : Rd cI w B' A x.leaf.um) (hB' : B' ≤ B) (hy : x.leaf.um.length ≤ 300) (hl : xs.length ≤ 1000000) :
    Calls Try.prog 77 #[.pointer (some ⟨g, 0, none⟩), .agg (propC x A c).toArray] w fun e w' => e = .returned (.tuple #[]) ∧ (∃ ys, Pen w' B g (xs ++ ys) (bad || propBad x) ∧ ((bad || propBad x) = false → ys = propB x) ∧ ys.length ≤ 700) ∧ Below B w w' ∧ Oth w w' := by
  have HX := Lib.hid hx
  have HR := Lib.hid hr
  have HP0 := Lib.hid (hP.alloc (.cells (propC x A c).toArray 71))
  have HBx0 := Lib.hid (Blk.new w 71 (propC x A c))
  have HW0 := Lib.hid ((Below.refl B w).alloc hP.size (.cells (propC x A c).toArray 71))
  have HO0 := Lib.hid ((Oth.refl w).alloc (.cells (propC x A c).toArray 71))
  have hs0 := World.size_alloc w (.cells (propC x A c).toArray 71)
  have hsz := hP.size
  obtain ⟨k, hk⟩ : ∃ k, k = x.kind := ⟨_, rfl⟩
  have HK := Lib.hid hk
  obtain ⟨zl, hzl⟩ : ∃ z, z = zeroN x.leaf := ⟨_, rfl⟩
  obtain ⟨zs, hzs⟩ : ∃ z, z = (x.start == zero32) := ⟨_, rfl⟩
  obtain ⟨za, hza⟩ : ∃ z, z = (x.at_ == 0) := ⟨_, rfl⟩
  have ez : ∀ w, (binOp .eql 47 (.agg (x.start.map b8).toArray) (.agg (zero32.map b8).toArray)).run Try.prog w = .ok (.bool zs) w := fun w => by
    rw [hzs]; exact run_eql_b8 w 47 5 32 Try.underlying47 Try.underlying5 (fun _ => by kernel_rfl) _ _ hx.start zero32_len
  have ea : (x.at_ == 0) = za := hza.symm
  have HBl := Lib.hid (fun W => blank_any x.leaf hx.leaf A c W)
  rw [← hzl] at HBl
  have HZl := Lib.hid hzl
  have HZs := Lib.hid hzs
  have HZa := Lib.hid hza
  have hbk := built_key
  have hhu := Try.underlying50
  have hhk := Try.underlying47
  have hhs := Try.underlying23
  have hin : (Try.prog.info? 50).map (·.size) = some (nodeC x.leaf A c).length := by rw [nodeC_len hx.leaf]; exact infoNode
  have hik : (Try.prog.info? 47).map (·.size) = some (x.start.map b8).length := by rw [List.length_map, hx.start]; exact infoKeyN
  have HSt := Lib.hid (Oth.refl w)
  have hgl0 := hP.lt
  have hle := hP.le
  clear hP hx hr hk hzl hzs hza
  have hgl := hgl0
  have hne : w.heap.size ≠ g := by omega
  have c32 := propC_ep HBx0.out HX.out
  have c33 := propC_frm HBx0.out HX.out
  go_enter Try.func77, Try.ntmps77
  go_wp2_with (refine wpList_load_mid rfl 23 (.tmp 8) rfl w.heap.size 0 rfl (x.grp.map b8) _ (propC_grp HBx0.out HX.out) Try.underlying23 rfl (by rw [List.length_map, HX.out.grp]; exact infoSum) ?_)
  generalize World.alloc w _ = w0 at HP0 HBx0 HW0 HO0 hs0 c32 c33 ⊢
  have hg := groupO_any HP0.out x.grp x.ep x.frm HX.out.grp (i64_wf HX.out.ep).1 (i64_wf HX.out.ep).2 (i64_wf HX.out.frm).1 (i64_wf HX.out.frm).2 (by omega)
  rw [arrV_mk] at hg
  refine hg.mono ?_
  clear hg
  rintro e w1 ⟨rfl, hp1, hb1, ho1⟩
  have HP1 := Lib.hid hp1
  have HBx1 := Lib.hid (ho1 _ _ _ (by decide) (by decide) HBx0.out)
  have HW1 := Lib.hid (HW0.out.trans hb1)
  have HO1 := Lib.hid (HO0.out.trans ho1)
  have hs1 : w.heap.size + 1 ≤ w1.heap.size := HBx1.out.lt
  clear hp1 hb1 ho1
  clear c32 c33
  go_wp2_with fail
  refine (bytesO_any HP1.out (rd_of_range (propC_base HBx1.out HX.out)) (by omega) HX.out.base (by simp [groupB_len, HX.out.grp]; omega) (by omega)).mono ?_
  rintro e w2 ⟨rfl, hp2, hb2, ho2⟩
  have HP2 := Lib.hid hp2
  have HBx2 := Lib.hid (ho2 _ _ _ (by decide) (by decide) HBx1.out)
  have HW2 := Lib.hid (HW1.out.trans hb2)
  have HO2 := Lib.hid (HO1.out.trans ho2)
  have hs2 : w.heap.size + 1 ≤ w2.heap.size := HBx2.out.lt
  clear hp2 hb2 ho2
  have c66 := (propC_kind HBx2.out HX.out).trans (by rw [← HK.out])
  go_wp2_with fail
  refine (numberO_in HP2.out k 1 1 rfl 3 (by rw [HK.out]; exact (i64_wf HX.out.kind).1) (by rw [HK.out]; exact (i64_wf HX.out.kind).2) (by omega) (by simp [groupB_len, HX.out.grp, HX.out.base]; omega)).mono ?_
  rintro e w3 ⟨rfl, hp3, hb3, ho3⟩
  have HP3 := Lib.hid hp3
  have HBx3 := Lib.hid (ho3 _ _ _ (by decide) (by decide) HBx2.out)
  have HW3 := Lib.hid (HW2.out.trans hb3)
  have HO3 := Lib.hid (HO2.out.trans ho3)
  have hs3 : w.heap.size + 1 ≤ w3.heap.size := HBx3.out.lt
  clear hp3 hb3 ho3
  clear c66
  have c67 := propC_leaf HBx3.out HX.out
  have c166 := propC_start HBx3.out HX.out
  have c198 := propC_at HBx3.out HX.out
  go_wp2_with fail
  refine wp_region_Y (by kernel_rfl) (fun w' => w'.rangeAt w.heap.size 67 (nodeC x.leaf A c) ∧ w'.rangeAt w.heap.size 166 (x.start.map b8) ∧ w'.cell? ⟨w.heap.size, 198, none⟩ = some (.int .i64 x.at_)) 12 ?_
  have hS : w3.drew.rangeAt w.heap.size 67 (nodeC x.leaf A c) ∧ w3.drew.rangeAt w.heap.size 166 (x.start.map b8) ∧ w3.drew.cell? ⟨w.heap.size, 198, none⟩ = some (.int .i64 x.at_) := ⟨c67, c166, c198⟩
  refine wpAnyY_pure (i := 0) (v := .pointer (some ⟨w.heap.size, 67, none⟩)) rfl (by kernel_rfl) (by kernel_rfl) (by kernel_rfl) (by kernel_rfl) (fun _ _ _ h => h) (Or.inl ⟨by rfl, ?_⟩) hS ?_
  · intro w' hw'
    go_simp
  try simp only [Act.put, List.setIfInBounds_toArray, List.set_cons_zero, List.set_cons_succ]
  refine wpAnyY_take (i := 1) (v := .agg (nodeC x.leaf A c).toArray) rfl (by kernel_rfl) (by kernel_rfl) (by kernel_rfl) (by kernel_rfl) (by kernel_rfl) (fun _ _ _ h => h) (yieldsIf_load_mid (by rfl) 50 (.tmp 23) rfl w.heap.size 67 rfl (nodeC x.leaf A c) _ (fun _ h => h.1) hhu rfl hin) hS ?_
  try simp only [Act.put, List.setIfInBounds_toArray, List.set_cons_zero, List.set_cons_succ]
  refine wpAnyY_pure (i := 3) (v := .pointer (some ⟨w.heap.size, 166, none⟩)) rfl (by kernel_rfl) (by kernel_rfl) (by kernel_rfl) (by kernel_rfl) (fun _ _ _ h => h) (Or.inl ⟨by rfl, ?_⟩) hS ?_
  · intro w' hw'
    go_simp
  try simp only [Act.put, List.setIfInBounds_toArray, List.set_cons_zero, List.set_cons_succ]
  refine wpAnyY_take (i := 4) (v := .agg (x.start.map b8).toArray) rfl (by kernel_rfl) (by kernel_rfl) (by kernel_rfl) (by kernel_rfl) (by kernel_rfl) (fun _ _ _ h => h) (yieldsIf_load_mid (by rfl) 47 (.tmp 26) rfl w.heap.size 166 rfl (x.start.map b8) _ (fun _ h => h.2.1) hhk rfl hik) hS ?_
  try simp only [Act.put, List.setIfInBounds_toArray, List.set_cons_zero, List.set_cons_succ]
  refine wpAnyY_pure (i := 5) (v := .agg (zero32.map b8).toArray) rfl (by kernel_rfl) (by kernel_rfl) (by kernel_rfl) (by kernel_rfl) (fun _ _ _ h => h) (Or.inl ⟨by rfl, fun w' _ => run_build_none rfl hbk _ w'⟩) hS ?_
  try simp only [Act.put, List.setIfInBounds_toArray, List.set_cons_zero, List.set_cons_succ]
  refine wpAnyY_pure (i := 6) (v := .bool zs) rfl (by kernel_rfl) (by kernel_rfl) (by kernel_rfl) (by kernel_rfl) (fun _ _ _ h => h) (Or.inl ⟨by rfl, ?_⟩) hS ?_
  · intro w' hw'
    go_simp
  try simp only [Act.put, List.setIfInBounds_toArray, List.set_cons_zero, List.set_cons_succ]
  refine wpAnyY_pure (i := 7) (v := .pointer (some ⟨w.heap.size, 198, none⟩)) rfl (by kernel_rfl) (by kernel_rfl) (by kernel_rfl) (by kernel_rfl) (fun _ _ _ h => h) (Or.inl ⟨by rfl, ?_⟩) hS ?_
  · intro w' hw'
    go_simp
  try simp only [Act.put, List.setIfInBounds_toArray, List.set_cons_zero, List.set_cons_succ]
  refine wpAnyY_take (i := 8) (v := .int .i64 x.at_) rfl (by kernel_rfl) (by kernel_rfl) (by kernel_rfl) (by kernel_rfl) (by kernel_rfl) (fun _ _ _ h => h) (Or.inl ⟨by rfl, ?_⟩) hS ?_
  · intro w' hw'
    go_simp
  try simp only [Act.put, List.setIfInBounds_toArray, List.set_cons_zero, List.set_cons_succ]
  refine wpAnyY_pure (i := 9) (v := .bool za) rfl (by kernel_rfl) (by kernel_rfl) (by kernel_rfl) (by kernel_rfl) (fun _ _ _ h => h) (Or.inl ⟨by rfl, ?_⟩) hS ?_
  · intro w' hw'
    go_simp
  try simp only [Act.put, List.setIfInBounds_toArray, List.set_cons_zero, List.set_cons_succ]
  refine wpAnyY_one (i := 2) (by kernel_rfl) rfl (fun K' hK => ?_)
  go_simp
  go_at_call 101
  refine (HBl.out _).mono ?_
  rintro e w4 ⟨rfl, hb4⟩
  have HBx4 := Lib.hid (HBx3.out.drew.below hb4 (by show w.heap.size < w3.heap.size; omega))
  have HB4 := Lib.hid (Below.trans (Below.refl w3.heap.size w3).drew hb4)
  have hS4 : w4.rangeAt w.heap.size 67 (nodeC x.leaf A c) ∧ w4.rangeAt w.heap.size 166 (x.start.map b8) ∧ w4.cell? ⟨w.heap.size, 198, none⟩ = some (.int .i64 x.at_) := ⟨propC_leaf HBx4.out HX.out, propC_start HBx4.out HX.out, propC_at HBx4.out HX.out⟩
  clear hb4
  refine hK _ _ (fun _ => hS4) ?_
  clear hK K'
  try simp only [Act.put, List.setIfInBounds_toArray, List.set_cons_zero, List.set_cons_succ]
  refine wpAnyY_one (i := 10) (by kernel_rfl) rfl (fun K' hK => ?_)
  go_simp
  refine hK _ _ (fun _ => hS4) ?_
  clear hK K'
  try simp only [Act.put, List.setIfInBounds_toArray, List.set_cons_zero, List.set_cons_succ]
  refine wpAnyY_one (i := 11) (by kernel_rfl) rfl (fun K' hK => ?_)
  go_simp
  refine hK _ _ (fun _ => hS4) ?_
  clear hK K'
  try simp only [Act.put, List.setIfInBounds_toArray, List.set_cons_zero, List.set_cons_succ]
  refine wpAnyY_one (i := 12) (by kernel_rfl) rfl (fun K' hK => ?_)
  go_simp
  refine hK _ _ (fun h => absurd rfl h) (wpAnyY_done (by kernel_rfl) ?_ _)
  clear hK K' hS hS4 c67 c166 c198
  have HP4 := Lib.hid (HP3.out.below HB4.out (Nat.le_refl _))
  have HW4 := Lib.hid (show Below B w w4 from HW3.out.trans (HB4.out.mono (by have := HW3.out.size; omega)))
  have HO4 := Lib.hid (show Oth w w4 from fun k T cs a b c => (HO3.out k T cs a b c).below HB4.out (HO3.out k T cs a b c).lt)
  have hs4 : w.heap.size + 1 ≤ w4.heap.size := HBx4.out.lt
  have c66 := (propC_kind HBx4.out HX.out).trans (by rw [← HK.out])
  clear HP0 HP1 HP2 HP3 HBx0 HBx1 HBx2 HBx3 HW0 HW1 HW2 HW3 HO0 HO1 HO2 HO3 HB4 hs0 hs1 hs2 hs3 HBl HSt
  obtain ⟨b3, hb3⟩ : ∃ b, b = (bad || outOf x.ep 4294967295 || outOf x.frm 31 || outOf k 3) := ⟨_, rfl⟩
  have hp4 := HP4.out
  rw [← hb3] at hp4
  have HP4 := Lib.hid hp4
  have HB3 := Lib.hid hb3
  clear hp4 hb3
  by_cases hk1 : k = 1
  · subst hk1
    go_wp2_with (refine wpList_load_mid rfl 50 (.tmp 41) rfl w.heap.size 67 rfl (nodeC x.leaf A c) _ (propC_leaf HBx4.out HX.out) Try.underlying50 rfl (by rw [nodeC_len HX.out.leaf]; exact infoNode) ?_)
    refine (nodeO_any HP4.out x.leaf HX.out.leaf (HR.out.below (HW4.out.mono hB')) hB' (by omega) (by simp only [List.length_append, groupB_len, be_len, HX.out.grp, HX.out.base]; omega)).mono ?_
    rintro e w5 ⟨rfl, ⟨ys, hp5, hys, hyl⟩, hb5, ho5⟩
    have HP5 := Lib.hid hp5
    have HBx5 := Lib.hid (ho5 _ _ _ (by decide) (by decide) HBx4.out)
    have HW5 := Lib.hid (HW4.out.trans hb5)
    have HO5 := Lib.hid (HO4.out.trans ho5)
    have hs5 : w.heap.size + 1 ≤ w5.heap.size := HBx5.out.lt
    clear hp5 hb5 ho5
    have HYs := Lib.hid hys
    clear hys c66
    go_wp2_with fail
    refine (bytesO_any HP5.out (rd_of_range (propC_start HBx5.out HX.out)) (by omega) HX.out.start (by simp only [List.length_append, groupB_len, be_len, HX.out.grp, HX.out.base]; omega) (by omega)).mono ?_
    rintro e w6 ⟨rfl, hp6, hb6, ho6⟩
    obtain ⟨q, hq⟩ : ∃ q, q = (b3 || nodeBad x.leaf) := ⟨_, rfl⟩
    rw [← hq] at hp6 HYs
    have HPq := Lib.hid hp6
    have HP6 := Lib.hid hp6
    have HBx6 := Lib.hid (ho6 _ _ _ (by decide) (by decide) HBx5.out)
    have HW6 := Lib.hid (HW5.out.trans hb6)
    have HO6 := Lib.hid (HO5.out.trans ho6)
    have hs6 : w.heap.size + 1 ≤ w6.heap.size := HBx6.out.lt
    clear hp6 hb6 ho6
    have HQE := Lib.hid (show (bad || propBad x) = (q || !za) by
      rw [hq, HB3.out, HZa.out]; unfold propBad kindBad; rw [if_pos HK.out.symm, show outOf 1 3 = false from rfl]
      generalize outOf x.ep 4294967295 = o1; generalize outOf x.frm 31 = o2; generalize nodeBad x.leaf = o3; generalize (x.at_ == 0) = o4
      cases bad <;> cases o1 <;> cases o2 <;> cases o3 <;> cases o4 <;> rfl)
    clear hq
    obtain ⟨v1, h1, -⟩ := HPq.out.at_
    have c1 := h1.cell 1 rfl
    have f1 := h1.frozen 1
    have HOs := Lib.hid (fun u => Oth.set_ (k0 := 1) (u := u) h1)
    have c198 := propC_at HBx6.out HX.out
    clear h1
    cases q with
    | true =>
      go_wp2_with fail
      generalize hW : World.setCell w6 _ _ = W8
      have HP8 := Lib.hid (show Pen W8 B g _ true by rw [← hW]; exact HPq.out.setBad true)
      have HBx8 := Lib.hid (show Blk W8 w.heap.size 71 (propC x A c) by rw [← hW]; exact HBx6.out.far (p := ⟨g, 1, none⟩) hne _)
      have HW8 := Lib.hid (show Below B w W8 by rw [← hW]; exact HW6.out.setCell (p := ⟨g, 1, none⟩) hle _)
      have HO8 := Lib.hid (show Oth w W8 by rw [← hW]; exact HO6.out.trans (HOs.out _))
      clear hW c1 f1
      refine (bytesO_any HP8.out (rd_of_range (propC_sig HBx8.out HX.out)) HBx8.out.lt HX.out.sig (by simp only [List.length_append, groupB_len, be_len, HX.out.grp, HX.out.base, HX.out.start, List.length_nil]; omega) (by omega)).mono ?_
      rintro e w9 ⟨rfl, hp9, hb9, ho9⟩
      have HP9 := Lib.hid hp9
      have HW9 := Lib.hid (HW8.out.trans hb9)
      have HO9 := Lib.hid (HO8.out.trans ho9)
      clear hp9 hb9 ho9
      go_wp2_with fail
      go_end0
      refine ⟨rfl, ⟨groupB x.grp x.ep x.frm ++ (x.base ++ (be 1 1 ++ ((ys ++ x.start) ++ x.sig))), HP9.out.cast (by simp only [List.append_assoc, List.nil_append]) (by rw [HQE.out] <;> rfl), ?_, by simp only [List.length_append, groupB_len, be_len, HX.out.grp, HX.out.base, HX.out.start, HX.out.sig, List.length_nil]; omega⟩, HW9.out, HO9.out⟩
      intro h; rw [HQE.out] at h; simp at h
    | false =>
      cases za with
      | false =>
        go_wp2_with fail
        generalize hW : World.setCell w6 _ _ = W8
        have HP8 := Lib.hid (show Pen W8 B g _ true by rw [← hW]; exact HPq.out.setBad true)
        have HBx8 := Lib.hid (show Blk W8 w.heap.size 71 (propC x A c) by rw [← hW]; exact HBx6.out.far (p := ⟨g, 1, none⟩) hne _)
        have HW8 := Lib.hid (show Below B w W8 by rw [← hW]; exact HW6.out.setCell (p := ⟨g, 1, none⟩) hle _)
        have HO8 := Lib.hid (show Oth w W8 by rw [← hW]; exact HO6.out.trans (HOs.out _))
        clear hW c1 f1
        refine (bytesO_any HP8.out (rd_of_range (propC_sig HBx8.out HX.out)) HBx8.out.lt HX.out.sig (by simp only [List.length_append, groupB_len, be_len, HX.out.grp, HX.out.base, HX.out.start, List.length_nil]; omega) (by omega)).mono ?_
        rintro e w9 ⟨rfl, hp9, hb9, ho9⟩
        have HP9 := Lib.hid hp9
        have HW9 := Lib.hid (HW8.out.trans hb9)
        have HO9 := Lib.hid (HO8.out.trans ho9)
        clear hp9 hb9 ho9
        go_wp2_with fail
        go_end0
        refine ⟨rfl, ⟨groupB x.grp x.ep x.frm ++ (x.base ++ (be 1 1 ++ ((ys ++ x.start) ++ x.sig))), HP9.out.cast (by simp only [List.append_assoc, List.nil_append]) (by rw [HQE.out] <;> rfl), ?_, by simp only [List.length_append, groupB_len, be_len, HX.out.grp, HX.out.base, HX.out.start, HX.out.sig, List.length_nil]; omega⟩, HW9.out, HO9.out⟩
        intro h; rw [HQE.out] at h; simp at h
      | true =>
        go_wp2_with fail
        generalize hW : World.setCell w6 _ _ = W8
        have HP8 := Lib.hid (show Pen W8 B g _ false by rw [← hW]; exact HPq.out.setBad false)
        have HBx8 := Lib.hid (show Blk W8 w.heap.size 71 (propC x A c) by rw [← hW]; exact HBx6.out.far (p := ⟨g, 1, none⟩) hne _)
        have HW8 := Lib.hid (show Below B w W8 by rw [← hW]; exact HW6.out.setCell (p := ⟨g, 1, none⟩) hle _)
        have HO8 := Lib.hid (show Oth w W8 by rw [← hW]; exact HO6.out.trans (HOs.out _))
        clear hW c1 f1
        refine (bytesO_any HP8.out (rd_of_range (propC_sig HBx8.out HX.out)) HBx8.out.lt HX.out.sig (by simp only [List.length_append, groupB_len, be_len, HX.out.grp, HX.out.base, HX.out.start, List.length_nil]; omega) (by omega)).mono ?_
        rintro e w9 ⟨rfl, hp9, hb9, ho9⟩
        have HP9 := Lib.hid hp9
        have HW9 := Lib.hid (HW8.out.trans hb9)
        have HO9 := Lib.hid (HO8.out.trans ho9)
        clear hp9 hb9 ho9
        go_wp2_with fail
        go_end0
        refine ⟨rfl, ⟨groupB x.grp x.ep x.frm ++ (x.base ++ (be 1 1 ++ ((ys ++ x.start) ++ x.sig))), HP9.out.cast (by simp only [List.append_assoc, List.nil_append]) (by rw [HQE.out] <;> rfl), ?_, by simp only [List.length_append, groupB_len, be_len, HX.out.grp, HX.out.base, HX.out.start, HX.out.sig, List.length_nil]; omega⟩, HW9.out, HO9.out⟩
        intro h
        rw [HYs.out (by trivial)]
        unfold propB midB
        rw [← HK.out]
        rfl
  · by_cases hk2 : k = 2
    · subst hk2
      clear hk1
      go_wp2_with (refine wpList_load_mid rfl 50 (.tmp 62) rfl w.heap.size 67 rfl (nodeC x.leaf A c) _ (propC_leaf HBx4.out HX.out) Try.underlying50 rfl (by rw [nodeC_len HX.out.leaf]; exact infoNode) ?_)
      refine (nodeO_any HP4.out x.leaf HX.out.leaf (HR.out.below (HW4.out.mono hB')) hB' (by omega) (by simp only [List.length_append, groupB_len, be_len, HX.out.grp, HX.out.base]; omega)).mono ?_
      rintro e w5 ⟨rfl, ⟨ys, hp5, hys, hyl⟩, hb5, ho5⟩
      obtain ⟨q, hq⟩ : ∃ q, q = (b3 || nodeBad x.leaf) := ⟨_, rfl⟩
      rw [← hq] at hp5 hys
      have HPq := Lib.hid hp5
      have HYs := Lib.hid hys
      have HP5 := Lib.hid hp5
      have HBx5 := Lib.hid (ho5 _ _ _ (by decide) (by decide) HBx4.out)
      have HW5 := Lib.hid (HW4.out.trans hb5)
      have HO5 := Lib.hid (HO4.out.trans ho5)
      have hs5 : w.heap.size + 1 ≤ w5.heap.size := HBx5.out.lt
      clear hp5 hb5 ho5
      have HQE := Lib.hid (show (bad || propBad x) = (q || !zs || !za) by
        rw [hq, HB3.out, HZa.out, HZs.out]; unfold propBad kindBad; rw [if_neg (by rw [← HK.out]; decide), if_pos HK.out.symm, show outOf 2 3 = false from rfl]
        generalize outOf x.ep 4294967295 = o1; generalize outOf x.frm 31 = o2; generalize nodeBad x.leaf = o3; generalize (x.at_ == 0) = o4; generalize (x.start == zero32) = o5
        cases bad <;> cases o1 <;> cases o2 <;> cases o3 <;> cases o4 <;> cases o5 <;> rfl)
      clear hys c66 hq
      obtain ⟨v1, h1, -⟩ := HPq.out.at_
      have c1 := h1.cell 1 rfl
      have f1 := h1.frozen 1
      have HOs := Lib.hid (fun u => Oth.set_ (k0 := 1) (u := u) h1)
      have c198 := propC_at HBx5.out HX.out
      clear h1
      cases q with
      | true =>
        go_wp2_with fail
        generalize hW : World.setCell w5 _ _ = W8
        have HP8 := Lib.hid (show Pen W8 B g _ true by rw [← hW]; exact HPq.out.setBad true)
        have HBx8 := Lib.hid (show Blk W8 w.heap.size 71 (propC x A c) by rw [← hW]; exact HBx5.out.far (p := ⟨g, 1, none⟩) hne _)
        have HW8 := Lib.hid (show Below B w W8 by rw [← hW]; exact HW5.out.setCell (p := ⟨g, 1, none⟩) hle _)
        have HO8 := Lib.hid (show Oth w W8 by rw [← hW]; exact HO5.out.trans (HOs.out _))
        clear hW c1 f1
        refine (bytesO_any HP8.out (rd_of_range (propC_sig HBx8.out HX.out)) HBx8.out.lt HX.out.sig (by simp only [List.length_append, groupB_len, be_len, HX.out.grp, HX.out.base, HX.out.start, List.length_nil]; omega) (by omega)).mono ?_
        rintro e w9 ⟨rfl, hp9, hb9, ho9⟩
        have HP9 := Lib.hid hp9
        have HW9 := Lib.hid (HW8.out.trans hb9)
        have HO9 := Lib.hid (HO8.out.trans ho9)
        clear hp9 hb9 ho9
        go_wp2_with fail
        go_end0
        refine ⟨rfl, ⟨groupB x.grp x.ep x.frm ++ (x.base ++ (be 2 1 ++ (ys ++ x.sig))), HP9.out.cast (by simp only [List.append_assoc, List.nil_append]) (by rw [HQE.out] <;> rfl), ?_, by simp only [List.length_append, groupB_len, be_len, HX.out.grp, HX.out.base, HX.out.start, HX.out.sig, List.length_nil]; omega⟩, HW9.out, HO9.out⟩
        intro h; rw [HQE.out] at h; simp at h
      | false =>
        cases zs with
        | false =>
          go_wp2_with fail
          generalize hW : World.setCell w5 _ _ = W8
          have HP8 := Lib.hid (show Pen W8 B g _ true by rw [← hW]; exact HPq.out.setBad true)
          have HBx8 := Lib.hid (show Blk W8 w.heap.size 71 (propC x A c) by rw [← hW]; exact HBx5.out.far (p := ⟨g, 1, none⟩) hne _)
          have HW8 := Lib.hid (show Below B w W8 by rw [← hW]; exact HW5.out.setCell (p := ⟨g, 1, none⟩) hle _)
          have HO8 := Lib.hid (show Oth w W8 by rw [← hW]; exact HO5.out.trans (HOs.out _))
          clear hW c1 f1
          refine (bytesO_any HP8.out (rd_of_range (propC_sig HBx8.out HX.out)) HBx8.out.lt HX.out.sig (by simp only [List.length_append, groupB_len, be_len, HX.out.grp, HX.out.base, HX.out.start, List.length_nil]; omega) (by omega)).mono ?_
          rintro e w9 ⟨rfl, hp9, hb9, ho9⟩
          have HP9 := Lib.hid hp9
          have HW9 := Lib.hid (HW8.out.trans hb9)
          have HO9 := Lib.hid (HO8.out.trans ho9)
          clear hp9 hb9 ho9
          go_wp2_with fail
          go_end0
          refine ⟨rfl, ⟨groupB x.grp x.ep x.frm ++ (x.base ++ (be 2 1 ++ (ys ++ x.sig))), HP9.out.cast (by simp only [List.append_assoc, List.nil_append]) (by rw [HQE.out] <;> rfl), ?_, by simp only [List.length_append, groupB_len, be_len, HX.out.grp, HX.out.base, HX.out.start, HX.out.sig, List.length_nil]; omega⟩, HW9.out, HO9.out⟩
          intro h; rw [HQE.out] at h; simp at h
        | true =>
          cases za with
          | false =>
            go_wp2_with fail
            generalize hW : World.setCell w5 _ _ = W8
            have HP8 := Lib.hid (show Pen W8 B g _ true by rw [← hW]; exact HPq.out.setBad true)
            have HBx8 := Lib.hid (show Blk W8 w.heap.size 71 (propC x A c) by rw [← hW]; exact HBx5.out.far (p := ⟨g, 1, none⟩) hne _)
            have HW8 := Lib.hid (show Below B w W8 by rw [← hW]; exact HW5.out.setCell (p := ⟨g, 1, none⟩) hle _)
            have HO8 := Lib.hid (show Oth w W8 by rw [← hW]; exact HO5.out.trans (HOs.out _))
            clear hW c1 f1
            refine (bytesO_any HP8.out (rd_of_range (propC_sig HBx8.out HX.out)) HBx8.out.lt HX.out.sig (by simp only [List.length_append, groupB_len, be_len, HX.out.grp, HX.out.base, HX.out.start, List.length_nil]; omega) (by omega)).mono ?_
            rintro e w9 ⟨rfl, hp9, hb9, ho9⟩
            have HP9 := Lib.hid hp9
            have HW9 := Lib.hid (HW8.out.trans hb9)
            have HO9 := Lib.hid (HO8.out.trans ho9)
            clear hp9 hb9 ho9
            go_wp2_with fail
            go_end0
            refine ⟨rfl, ⟨groupB x.grp x.ep x.frm ++ (x.base ++ (be 2 1 ++ (ys ++ x.sig))), HP9.out.cast (by simp only [List.append_assoc, List.nil_append]) (by rw [HQE.out] <;> rfl), ?_, by simp only [List.length_append, groupB_len, be_len, HX.out.grp, HX.out.base, HX.out.start, HX.out.sig, List.length_nil]; omega⟩, HW9.out, HO9.out⟩
            intro h; rw [HQE.out] at h; simp at h
          | true =>
            go_wp2_with fail
            generalize hW : World.setCell w5 _ _ = W8
            have HP8 := Lib.hid (show Pen W8 B g _ false by rw [← hW]; exact HPq.out.setBad false)
            have HBx8 := Lib.hid (show Blk W8 w.heap.size 71 (propC x A c) by rw [← hW]; exact HBx5.out.far (p := ⟨g, 1, none⟩) hne _)
            have HW8 := Lib.hid (show Below B w W8 by rw [← hW]; exact HW5.out.setCell (p := ⟨g, 1, none⟩) hle _)
            have HO8 := Lib.hid (show Oth w W8 by rw [← hW]; exact HO5.out.trans (HOs.out _))
            clear hW c1 f1
            refine (bytesO_any HP8.out (rd_of_range (propC_sig HBx8.out HX.out)) HBx8.out.lt HX.out.sig (by simp only [List.length_append, groupB_len, be_len, HX.out.grp, HX.out.base, HX.out.start, List.length_nil]; omega) (by omega)).mono ?_
            rintro e w9 ⟨rfl, hp9, hb9, ho9⟩
            have HP9 := Lib.hid hp9
            have HW9 := Lib.hid (HW8.out.trans hb9)
            have HO9 := Lib.hid (HO8.out.trans ho9)
            clear hp9 hb9 ho9
            go_wp2_with fail
            go_end0
            refine ⟨rfl, ⟨groupB x.grp x.ep x.frm ++ (x.base ++ (be 2 1 ++ (ys ++ x.sig))), HP9.out.cast (by simp only [List.append_assoc, List.nil_append]) (by rw [HQE.out] <;> rfl), ?_, by simp only [List.length_append, groupB_len, be_len, HX.out.grp, HX.out.base, HX.out.start, HX.out.sig, List.length_nil]; omega⟩, HW9.out, HO9.out⟩
            intro h
            rw [HYs.out (by trivial)]
            unfold propB midB
            rw [← HK.out]
            rfl
    · by_cases hk3 : k = 3
      · subst hk3
        clear hk1 hk2
        have c198 := propC_at HBx4.out HX.out
        go_wp2_with fail
        refine (seatO_any HP4.out x.at_ (i64_wf HX.out.at_).1 (i64_wf HX.out.at_).2 (by simp only [List.length_append, groupB_len, be_len, HX.out.grp, HX.out.base]; omega)).mono ?_
        rintro e w5 ⟨rfl, hp5, hb5, ho5⟩
        obtain ⟨q, hq⟩ : ∃ q, q = (b3 || outOf x.at_ 31) := ⟨_, rfl⟩
        rw [← hq] at hp5
        have HPq := Lib.hid hp5
        have HP5 := Lib.hid hp5
        have HBx5 := Lib.hid (ho5 _ _ _ (by decide) (by decide) HBx4.out)
        have HW5 := Lib.hid (HW4.out.trans hb5)
        have HO5 := Lib.hid (HO4.out.trans ho5)
        have hs5 : w.heap.size + 1 ≤ w5.heap.size := HBx5.out.lt
        clear hp5 hb5 ho5
        have HQE := Lib.hid (show (bad || propBad x) = (q || !zl || !zs) by
          rw [hq, HB3.out, HZl.out, HZs.out]; unfold propBad kindBad; rw [if_neg (by rw [← HK.out]; decide), if_neg (by rw [← HK.out]; decide), if_pos HK.out.symm, show outOf 3 3 = false from rfl]
          generalize outOf x.ep 4294967295 = o1; generalize outOf x.frm 31 = o2; generalize outOf x.at_ 31 = o3; generalize zeroN x.leaf = o4; generalize (x.start == zero32) = o5
          cases bad <;> cases o1 <;> cases o2 <;> cases o3 <;> cases o4 <;> cases o5 <;> rfl)
        clear c66 c198 hq
        obtain ⟨v1, h1, -⟩ := HPq.out.at_
        have c1 := h1.cell 1 rfl
        have f1 := h1.frozen 1
        have HOs := Lib.hid (fun u => Oth.set_ (k0 := 1) (u := u) h1)
        have c198 := propC_at HBx5.out HX.out
        clear h1
        cases q with
        | true =>
          go_wp2_with fail
          generalize hW : World.setCell w5 _ _ = W8
          have HP8 := Lib.hid (show Pen W8 B g _ true by rw [← hW]; exact HPq.out.setBad true)
          have HBx8 := Lib.hid (show Blk W8 w.heap.size 71 (propC x A c) by rw [← hW]; exact HBx5.out.far (p := ⟨g, 1, none⟩) hne _)
          have HW8 := Lib.hid (show Below B w W8 by rw [← hW]; exact HW5.out.setCell (p := ⟨g, 1, none⟩) hle _)
          have HO8 := Lib.hid (show Oth w W8 by rw [← hW]; exact HO5.out.trans (HOs.out _))
          clear hW c1 f1
          refine (bytesO_any HP8.out (rd_of_range (propC_sig HBx8.out HX.out)) HBx8.out.lt HX.out.sig (by simp only [List.length_append, groupB_len, be_len, HX.out.grp, HX.out.base, HX.out.start, List.length_nil]; omega) (by omega)).mono ?_
          rintro e w9 ⟨rfl, hp9, hb9, ho9⟩
          have HP9 := Lib.hid hp9
          have HW9 := Lib.hid (HW8.out.trans hb9)
          have HO9 := Lib.hid (HO8.out.trans ho9)
          clear hp9 hb9 ho9
          go_wp2_with fail
          go_end0
          refine ⟨rfl, ⟨groupB x.grp x.ep x.frm ++ (x.base ++ (be 3 1 ++ (be x.at_ 1 ++ x.sig))), HP9.out.cast (by simp only [List.append_assoc, List.nil_append]) (by rw [HQE.out] <;> rfl), ?_, by simp only [List.length_append, groupB_len, be_len, HX.out.grp, HX.out.base, HX.out.start, HX.out.sig, List.length_nil]; omega⟩, HW9.out, HO9.out⟩
          intro h; rw [HQE.out] at h; simp at h
        | false =>
          cases zl with
          | false =>
            go_wp2_with fail
            generalize hW : World.setCell w5 _ _ = W8
            have HP8 := Lib.hid (show Pen W8 B g _ true by rw [← hW]; exact HPq.out.setBad true)
            have HBx8 := Lib.hid (show Blk W8 w.heap.size 71 (propC x A c) by rw [← hW]; exact HBx5.out.far (p := ⟨g, 1, none⟩) hne _)
            have HW8 := Lib.hid (show Below B w W8 by rw [← hW]; exact HW5.out.setCell (p := ⟨g, 1, none⟩) hle _)
            have HO8 := Lib.hid (show Oth w W8 by rw [← hW]; exact HO5.out.trans (HOs.out _))
            clear hW c1 f1
            refine (bytesO_any HP8.out (rd_of_range (propC_sig HBx8.out HX.out)) HBx8.out.lt HX.out.sig (by simp only [List.length_append, groupB_len, be_len, HX.out.grp, HX.out.base, HX.out.start, List.length_nil]; omega) (by omega)).mono ?_
            rintro e w9 ⟨rfl, hp9, hb9, ho9⟩
            have HP9 := Lib.hid hp9
            have HW9 := Lib.hid (HW8.out.trans hb9)
            have HO9 := Lib.hid (HO8.out.trans ho9)
            clear hp9 hb9 ho9
            go_wp2_with fail
            go_end0
            refine ⟨rfl, ⟨groupB x.grp x.ep x.frm ++ (x.base ++ (be 3 1 ++ (be x.at_ 1 ++ x.sig))), HP9.out.cast (by simp only [List.append_assoc, List.nil_append]) (by rw [HQE.out] <;> rfl), ?_, by simp only [List.length_append, groupB_len, be_len, HX.out.grp, HX.out.base, HX.out.start, HX.out.sig, List.length_nil]; omega⟩, HW9.out, HO9.out⟩
            intro h; rw [HQE.out] at h; simp at h
          | true =>
            cases zs with
            | false =>
              go_wp2_with fail
              generalize hW : World.setCell w5 _ _ = W8
              have HP8 := Lib.hid (show Pen W8 B g _ true by rw [← hW]; exact HPq.out.setBad true)
              have HBx8 := Lib.hid (show Blk W8 w.heap.size 71 (propC x A c) by rw [← hW]; exact HBx5.out.far (p := ⟨g, 1, none⟩) hne _)
              have HW8 := Lib.hid (show Below B w W8 by rw [← hW]; exact HW5.out.setCell (p := ⟨g, 1, none⟩) hle _)
              have HO8 := Lib.hid (show Oth w W8 by rw [← hW]; exact HO5.out.trans (HOs.out _))
              clear hW c1 f1
              refine (bytesO_any HP8.out (rd_of_range (propC_sig HBx8.out HX.out)) HBx8.out.lt HX.out.sig (by simp only [List.length_append, groupB_len, be_len, HX.out.grp, HX.out.base, HX.out.start, List.length_nil]; omega) (by omega)).mono ?_
              rintro e w9 ⟨rfl, hp9, hb9, ho9⟩
              have HP9 := Lib.hid hp9
              have HW9 := Lib.hid (HW8.out.trans hb9)
              have HO9 := Lib.hid (HO8.out.trans ho9)
              clear hp9 hb9 ho9
              go_wp2_with fail
              go_end0
              refine ⟨rfl, ⟨groupB x.grp x.ep x.frm ++ (x.base ++ (be 3 1 ++ (be x.at_ 1 ++ x.sig))), HP9.out.cast (by simp only [List.append_assoc, List.nil_append]) (by rw [HQE.out] <;> rfl), ?_, by simp only [List.length_append, groupB_len, be_len, HX.out.grp, HX.out.base, HX.out.start, HX.out.sig, List.length_nil]; omega⟩, HW9.out, HO9.out⟩
              intro h; rw [HQE.out] at h; simp at h
            | true =>
              go_wp2_with fail
              generalize hW : World.setCell w5 _ _ = W8
              have HP8 := Lib.hid (show Pen W8 B g _ false by rw [← hW]; exact HPq.out.setBad false)
              have HBx8 := Lib.hid (show Blk W8 w.heap.size 71 (propC x A c) by rw [← hW]; exact HBx5.out.far (p := ⟨g, 1, none⟩) hne _)
              have HW8 := Lib.hid (show Below B w W8 by rw [← hW]; exact HW5.out.setCell (p := ⟨g, 1, none⟩) hle _)
              have HO8 := Lib.hid (show Oth w W8 by rw [← hW]; exact HO5.out.trans (HOs.out _))
              clear hW c1 f1
              refine (bytesO_any HP8.out (rd_of_range (propC_sig HBx8.out HX.out)) HBx8.out.lt HX.out.sig (by simp only [List.length_append, groupB_len, be_len, HX.out.grp, HX.out.base, HX.out.start, List.length_nil]; omega) (by omega)).mono ?_
              rintro e w9 ⟨rfl, hp9, hb9, ho9⟩
              have HP9 := Lib.hid hp9
              have HW9 := Lib.hid (HW8.out.trans hb9)
              have HO9 := Lib.hid (HO8.out.trans ho9)
              clear hp9 hb9 ho9
              go_wp2_with fail
              go_end0
              refine ⟨rfl, ⟨groupB x.grp x.ep x.frm ++ (x.base ++ (be 3 1 ++ (be x.at_ 1 ++ x.sig))), HP9.out.cast (by simp only [List.append_assoc, List.nil_append]) (by rw [HQE.out] <;> rfl), ?_, by simp only [List.length_append, groupB_len, be_len, HX.out.grp, HX.out.base, HX.out.start, HX.out.sig, List.length_nil]; omega⟩, HW9.out, HO9.out⟩
              intro h
              rw [show be x.at_ 1 = be x.at_ 1 from rfl]
              unfold propB midB
              rw [← HK.out]
              rfl
      · have f1 : (k == 1) = false := by simp; omega
        have f2 : (k == 2) = false := by simp; omega
        have f3 : (k == 3) = false := by simp; omega
        have HPq := HP4
        have HQE := Lib.hid (show (bad || propBad x) = true by
          unfold propBad kindBad; rw [if_neg (by rw [← HK.out]; exact hk1), if_neg (by rw [← HK.out]; exact hk2), if_neg (by rw [← HK.out]; exact hk3)]; simp)
        clear hk1 hk2 hk3
        obtain ⟨v1, h1, -⟩ := HPq.out.at_
        have c1 := h1.cell 1 rfl
        have f10 := h1.frozen 1
        have HOs := Lib.hid (fun u => Oth.set_ (k0 := 1) (u := u) h1)
        clear h1
        go_wp2_with fail
        generalize hW : World.setCell w4 _ _ = W8
        have HP8 := Lib.hid (show Pen W8 B g _ true by rw [← hW]; exact HPq.out.setBad true)
        have HBx8 := Lib.hid (show Blk W8 w.heap.size 71 (propC x A c) by rw [← hW]; exact HBx4.out.far (p := ⟨g, 1, none⟩) hne _)
        have HW8 := Lib.hid (show Below B w W8 by rw [← hW]; exact HW4.out.setCell (p := ⟨g, 1, none⟩) hle _)
        have HO8 := Lib.hid (show Oth w W8 by rw [← hW]; exact HO4.out.trans (HOs.out _))
        clear hW c1 f1
        refine (bytesO_any HP8.out (rd_of_range (propC_sig HBx8.out HX.out)) HBx8.out.lt HX.out.sig (by simp only [List.length_append, groupB_len, be_len, HX.out.grp, HX.out.base, HX.out.start, List.length_nil]; omega) (by omega)).mono ?_
        rintro e w9 ⟨rfl, hp9, hb9, ho9⟩
        have HP9 := Lib.hid hp9
        have HW9 := Lib.hid (HW8.out.trans hb9)
        have HO9 := Lib.hid (HO8.out.trans ho9)
        clear hp9 hb9 ho9
        go_wp2_with fail
        go_end0
        refine ⟨rfl, ⟨groupB x.grp x.ep x.frm ++ (x.base ++ (be k 1 ++ (([] : List (BitVec 8)) ++ x.sig))), HP9.out.cast (by simp only [List.append_assoc, List.nil_append]) (by rw [HQE.out] <;> rfl), ?_, by simp only [List.length_append, groupB_len, be_len, HX.out.grp, HX.out.base, HX.out.start, HX.out.sig, List.length_nil]; omega⟩, HW9.out, HO9.out⟩
        intro h; rw [HQE.out] at h; simp at h
/-- wire.PutProposal -/
theorem propB_len {x : PropD} (hx : x.Ok) (hy : x.leaf.um.length ≤ 300) : (propB x).length ≤ 700 := by
  unfold propB midB
  have := nodeB_len hx.leaf
  split
  · simp only [List.length_append, groupB_len, be_len, hx.grp, hx.base, hx.start, hx.sig]; omega
  · split
    · simp only [List.length_append, groupB_len, be_len, hx.grp, hx.base, hx.start, hx.sig]; omega
    · split
      · simp only [List.length_append, groupB_len, be_len, hx.grp, hx.base, hx.start, hx.sig]; omega
      · simp only [List.length_append, groupB_len, be_len, hx.grp, hx.base, hx.start, hx.sig, List.length_nil]; omega
theorem propC_whole {w : World} {g : Nat} {T : TypeId} {x : PropD} {A : Option Addr} {c : Nat} (h : Blk w g T (propC x A c)) : w.rangeAt g 0 (propC x A c) := h.whole
set_option maxRecDepth 100000 in
set_option maxHeartbeats 2000000 in
theorem putProp_any {w : World} (x : PropD) (hx : x.Ok) {B' : Nat} {A : Option Addr} {c : Nat} (hr : Rd cI w B' A x.leaf.um) (hB' : B' ≤ w.heap.size) (hy : x.leaf.um.length ≤ 300) :
    Calls Try.prog 32 #[.agg (propC x A c).toArray] w fun e w' => ∃ v, e = .returned (.tuple #[v, errV (if (propBad x || decide (65536 < (propB x).length)) then 3 else 0)]) ∧ Own b8 w' w.heap.size 5 v (if (propBad x || decide (65536 < (propB x).length)) then [] else propB x) ∧ Below w.heap.size w w' := by
  have HX := Lib.hid hx
  have HR := Lib.hid hr
  have HF := Lib.hid (show ∀ W1, (w.alloc (.cells (propC x A c).toArray 71)).alloc (.cells #[.slice none 0 0, .bool false] 112) = W1 →
      Blk W1 w.heap.size 71 (propC x A c) ∧ Pen W1 (w.heap.size + 1) (w.heap.size + 1) [] false ∧ Below w.heap.size w W1 ∧ W1.heap.size = w.heap.size + 2 by
    rintro W1 rfl
    refine ⟨Blk.alloc (Blk.new w _ _) _, pen_of (v := .slice none 0 0) ?_ (Own.nil_ _ _ _ _) (Nat.le_refl _), ((Below.refl _ _).alloc (Nat.le_refl _) _).alloc (by simp) _, by simp⟩
    exact Blk.at_size _ [.slice none 0 0, .bool false] (by simp))
  obtain ⟨q, hq⟩ : ∃ q, q = (propBad x || decide (65536 < (propB x).length)) := ⟨_, rfl⟩
  have HQ := Lib.hid hq
  rw [← hq]
  clear hx hr hq
  go_enter Try.func32, Try.ntmps32
  go_wp2_with (generalize hW1 : World.alloc (World.alloc w _) _ = W1; obtain ⟨hbx1, hp1, hb1, hz1⟩ := HF.out W1 hW1; clear hW1; have HBx1 := Lib.hid hbx1; have HP1 := Lib.hid hp1; have HB1 := Lib.hid hb1; clear hbx1 hp1 hb1; refine wpList_load_mid rfl 71 (.tmp 1) rfl w.heap.size 0 rfl (propC x A c) _ (propC_whole HBx1.out) Try.underlying71 rfl (by rw [propC_len HX.out]; exact infoProp) ?_)
  refine (proposalO_any HP1.out x HX.out (HR.out.below (HB1.out.mono hB')) (by omega) hy (by simp)).mono ?_
  rintro e w2 ⟨rfl, ⟨zs, hp2, hz2, hl2⟩, hb2, -⟩
  have HEnd := Lib.hid (end_put hp2 hz2)
  rw [← HQ.out] at HEnd
  have HBe := Lib.hid (HB1.out.trans (hb2.mono (by omega)))
  clear hp2 hb2 hz2
  go_wp2_with fail
  refine HEnd.out.mono ?_
  rintro e w5 ⟨⟨v5, rfl, ho5⟩, rfl⟩
  have HO5 := Lib.hid (ho5.less (show w.heap.size ≤ w.heap.size + 1 by omega))
  clear ho5
  cases q with
  | true =>
    go_wp2_with fail
    go_ret2
    exact ⟨_, rfl, HO5.out, HBe.out⟩
  | false =>
    go_wp2_with fail
    go_ret2
    exact ⟨_, rfl, HO5.out, HBe.out⟩
end Go.Proofs.Ytloglpamnalmeaa
