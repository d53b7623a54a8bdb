/- A node's cells; CONTRACTS: wire.blank, burrowref09.Zero. -/
import Derived.Test.YtloglpamnalmeaaPack
import Derived.Test.YtloglpamnalmeaaPens
namespace Go.Proofs.Ytloglpamnalmeaa
open Go.RowKit
set_option linter.unusedVariables false
set_option linter.unusedSimpArgs false

theorem wpList_load_midw {P : Program} {ops : Array Oper} {rest : List Oper} {op : Oper} {a : Act} {w : World} {Q : Exit → Act → World → Prop} (hgd : Region.wanted op (yielded ops a.tmps) = true) (ty : TypeId) (x : Operand) (ho : op.op = .load ty x)
    (g o : Nat) (hx : a.eval x = .pointer (some ⟨g, o, none⟩)) (us : List Value) (d : TypeDesc) (hr : w.rangeAt g o us)
    (hu : P.underlying ty = some d) (hd : d.isRow = true) (hi : (P.info? ty).map (·.size) = some us.length)
    (h : wpList P ops Q rest (a.put op.dst (.agg us.toArray)) w) : wpList P ops Q (op :: rest) a w := by
  refine wpList_step fun K hK => ?_
  rw [if_pos hgd]
  have hl := run_loadVar_mid (P := P) w g o ty us d hr hu hd hi
  unfold Oper.wp execOp
  simp only [ho, hx, Instr.loadAt, Instr.sureAddr, Sem.run_bind, Sem.run_pure, Result.andThen_ok, hl, Oper.upon_value]
  exact hK _ _ h
theorem wpList_build_atw {P : Program} {ops : Array Oper} {rest : List Oper} {op : Oper} {a : Act} {w : World} {Q : Exit → Act → World → Prop} (hgd : Region.wanted op (yielded ops a.tmps) = true) (t : TypeId) (parts : List (Nat × Operand)) (ho : op.op = .build t parts.toArray)
    (cells : Array Value) (vals : List (Nat × Value)) (hv : parts.map (fun x => (x.1, a.eval x.2)) = vals) (hb : P.built t vals = some cells) (h : wpList P ops Q rest (a.put op.dst (.agg cells)) w) : wpList P ops Q (op :: rest) a w := by
  refine wpList_step fun K hK => ?_
  rw [if_pos hgd]
  have hr := run_build (P := P) w t vals.toArray cells hb
  rw [← hv, ← List.map_toArray] at hr
  unfold Oper.wp execOp
  simp only [ho]
  have e : (parts.toArray.map fun (i, x) => (i, a.eval x)) = parts.toArray.map (fun x => (x.1, a.eval x.2)) := rfl
  rw [e]
  simp only [Sem.run_bind, Sem.run_pure, Result.andThen_ok, hr, Oper.upon_value]
  exact hK _ _ h

/-- what a node says -/
structure NodeD where
  used : Bool
  name : Int
  key : List (BitVec 8)
  sign : List (BitVec 8)
  par : List (BitVec 8)
  um : List Int
structure NodeD.Ok (x : NodeD) : Prop where
  key : x.key.length = 32
  sign : x.sign.length = 32
  par : x.par.length = 32
  name : (Lit.int .i64 x.name).wf = true
  um : ∀ z ∈ x.um, (Lit.int .i64 z).wf = true
def nodeC (x : NodeD) (A : Option Addr) (c : Nat) : List Value := (.bool x.used :: .int .i64 x.name :: x.key.map b8) ++ (x.sign.map b8 ++ (x.par.map b8 ++ [.slice A x.um.length c]))
theorem nodeC_len {x : NodeD} (h : x.Ok) (A : Option Addr) (c : Nat) : (nodeC x A c).length = 99 := by simp [nodeC, h.key, h.sign, h.par]
theorem nodeC_one (x : NodeD) (A : Option Addr) (c : Nat) : ∀ u ∈ nodeC x A c, u.oneCell' = true := by
  intro u hu
  simp only [nodeC, List.mem_append, List.mem_map, List.mem_cons, List.not_mem_nil, or_false] at hu
  rcases hu with (rfl | rfl | ⟨y, -, rfl⟩) | ⟨y, -, rfl⟩ | ⟨y, -, rfl⟩ | rfl <;> rfl
section
variable {w : World} {g : Nat} {T : TypeId} {x : NodeD} {A : Option Addr} {c : Nat}
theorem nodeC_key (h : Blk w g T (nodeC x A c)) (hx : x.Ok) : w.rangeAt g 2 (x.key.map b8) := by
  have := h.range 2 32
  unfold nodeC at this
  rw [List.drop_append_of_le_length (by simp [hx.key]), List.drop_succ_cons, List.drop_succ_cons, List.drop_zero, List.take_append_of_le_length (by simp [hx.key]), List.take_of_length_le (by simp [hx.key])] at this
  exact this
theorem nodeC_sign (h : Blk w g T (nodeC x A c)) (hx : x.Ok) : w.rangeAt g 34 (x.sign.map b8) := by
  have := h.range 34 32
  unfold nodeC at this
  rw [List.drop_append, List.drop_eq_nil_of_le (by simp [hx.key]), List.nil_append, show 34 - (Value.bool x.used :: Value.int .i64 x.name :: x.key.map b8).length = 0 by simp [hx.key], List.drop_zero, List.take_append_of_le_length (by simp [hx.sign]), List.take_of_length_le (by simp [hx.sign])] at this
  exact this
theorem nodeC_par (h : Blk w g T (nodeC x A c)) (hx : x.Ok) : w.rangeAt g 66 (x.par.map b8) := by
  have := h.range 66 32
  unfold nodeC at this
  rw [List.drop_append, List.drop_eq_nil_of_le (by simp [hx.key]), List.nil_append, List.drop_append, List.drop_eq_nil_of_le (by simp [hx.key, hx.sign]), List.nil_append, show 66 - (Value.bool x.used :: Value.int .i64 x.name :: x.key.map b8).length - (x.sign.map b8).length = 0 by simp [hx.key, hx.sign], List.drop_zero, List.take_append_of_le_length (by simp [hx.par]), List.take_of_length_le (by simp [hx.par])] at this
  exact this
theorem nodeC_um (h : Blk w g T (nodeC x A c)) (hx : x.Ok) : w.cell? ⟨g, 98, none⟩ = some (.slice A x.um.length c) := h.cell 98 (by simp [nodeC, hx.key, hx.sign, hx.par])
theorem nodeC_used (h : Blk w g T (nodeC x A c)) : w.cell? ⟨g, 0, none⟩ = some (.bool x.used) := h.cell 0 rfl
theorem nodeC_name (h : Blk w g T (nodeC x A c)) : w.cell? ⟨g, 1, none⟩ = some (.int .i64 x.name) := h.cell 1 rfl
end
/-- is it zero? -/
def zeroN (x : NodeD) : Bool := !x.used && (x.name == 0) && (x.key == zero32) && (x.sign == zero32) && (x.par == zero32) && (x.um.length == 0)
theorem infoKeyN : (Try.prog.info? 47).map (·.size) = some 32 := by kernel_rfl
theorem infoNode : (Try.prog.info? 50).map (·.size) = some 99 := by kernel_rfl
theorem built_key : Try.prog.built 47 [] = some (zero32.map b8).toArray := by kernel_rfl
theorem built_sum : Try.prog.built 23 [] = some (zero32.map b8).toArray := by kernel_rfl
end Go.Proofs.Ytloglpamnalmeaa

/- CONTRACT: wire.rising. -/
namespace Go.Proofs.Ytloglpamnalmeaa
open Go.RowKit
set_option linter.unusedVariables false
set_option linter.unusedSimpArgs false

/-- do numbers rise up to place k? -/
def riseTo (l : List Int) (k : Nat) : Bool := (List.range k).all fun i => i == 0 || decide (l.getD (i - 1) 0 < l.getD i 0)
def riseB (l : List Int) : Bool := riseTo l l.length
theorem riseTo_succ (l : List Int) (k : Nat) : riseTo l (k + 1) = (riseTo l k && (k == 0 || decide (l.getD (k - 1) 0 < l.getD k 0))) := by
  unfold riseTo; rw [List.range_succ, List.all_append]; simp
theorem riseTo_le {l : List Int} : ∀ {m k : Nat}, riseTo l k = false → k ≤ m → riseTo l m = false
  | 0, k, h, hk => by obtain rfl : k = 0 := by omega
                      exact h
  | m + 1, k, h, hk => by
    by_cases e : k = m + 1
    · subst e; exact h
    · rw [riseTo_succ, riseTo_le h (by omega)]; rfl
set_option maxRecDepth 100000 in
set_option maxHeartbeats 1000000 in
theorem rising_any {w : World} {B : Nat} {A : Option Addr} {n c : Nat} {l : List Int} (hr : Rd cI w B A l) (hB : B ≤ w.heap.size) (hn : l.length = n) (hy : n ≤ 1000000) :
    Calls Try.prog 102 #[.slice A n c] w fun e w' => e = .returned (.bool (riseB l)) ∧ Below w.heap.size w w' := by
  have HR := Lib.hid hr
  have HN := Lib.hid hn
  obtain ⟨r, hrr⟩ : ∃ r, r = riseB l := ⟨_, rfl⟩
  rw [← hrr]
  have HRr := Lib.hid hrr
  clear hr hn hrr
  go_enter Try.func102, Try.ntmps102
  go_wp2_with fail
  go_loopw [3, 6] (fun cv iv wr => ∃ k : Nat, k ≤ n ∧ iv = .int .i64 (k : Int) ∧ riseTo l k = true ∧ Below w.heap.size w wr) (fun _ iv _ => n - (intOf iv).toNat)
  case atStart => exact ⟨0, by omega, rfl, rfl, Below.refl _ _⟩
  case round =>
    obtain ⟨k, hk, rfl, hrise, hb⟩ := hrel
    by_cases hlt : k < n
    · have hlt' : (k : Int) < (n : Int) := by omega
      have HRi := Lib.hid hrise
      have HB := Lib.hid hb
      by_cases hk0 : k = 0
      · subst hk0
        clear hrise hb
        go_wp2_with fail
        go_quiet (fail)
        go_wp2_with fail
        refine ⟨⟨1, by omega, rfl, ?_, below_drewN HB.out nq⟩, by show n - 1 < n - 0; omega⟩
        rw [riseTo_succ, HRi.out]; rfl
      · obtain ⟨j, rfl⟩ : ∃ j, k = j + 1 := ⟨k - 1, by omega⟩
        obtain ⟨b, off, e1, hb1, hc1⟩ := (HR.out.below (hb.mono hB)).at_ (k := j) (by rw [HN.out]; omega)
        obtain ⟨b', off', e2, hb2, hc2⟩ := (HR.out.below (hb.mono hB)).at_ (k := j + 1) (by rw [HN.out]; omega)
        subst e1
        cases e2
        obtain ⟨x, hx⟩ : ∃ x, x = l[j]'(by rw [HN.out]; omega) := ⟨_, rfl⟩
        obtain ⟨y, hy'⟩ : ∃ y, y = l[j + 1]'(by rw [HN.out]; omega) := ⟨_, rfl⟩
        rw [← hx] at hc1
        rw [← hy'] at hc2
        have d1 : wr.cell? ⟨b, off + j, none⟩ = some (.int .i64 x) := hc1
        have d2 : wr.cell? ⟨b, off + (j + 1), none⟩ = some (.int .i64 y) := hc2
        have HX := Lib.hid (show l.getD j 0 = x by rw [hx]; simp [List.getD, show j < l.length by rw [HN.out]; omega])
        have HY := Lib.hid (show l.getD (j + 1) 0 = y by rw [hy']; simp [List.getD, show j + 1 < l.length by rw [HN.out]; omega])
        clear hrise hb hc1 hc2 hx hy' hk0
        have hw1 : IntKind.i64.wrap ((j : Int) + 1 - 1) = (j : Int) := by rw [show (j : Int) + 1 - 1 = j by omega]; exact IntWalk.i64_in _ (by omega)
        have hpos : (0 : Int) < (j : Int) + 1 := by omega
        by_cases hyx : y ≤ x
        · go_wp2_with fail
          go_quiet (fail)
          go_wp2_with fail
          have e : riseB l = false := by
            unfold riseB
            refine riseTo_le (k := j + 2) ?_ (by rw [HN.out]; omega)
            rw [riseTo_succ, show j + 1 - 1 = j by omega, HX.out, HY.out, show (j + 1 == 0) = false by simp, show decide (x < y) = false by simp; omega]
            simp
          rw [HRr.out, e]
          go_ret
          exact ⟨rfl, below_drewN HB.out nq⟩
        · have hyx' : (y ≤ x) = False := by simp; omega
          go_wp2_with fail
          go_quiet (fail)
          go_wp2_with fail
          refine ⟨⟨j + 2, by omega, by congr 1, ?_, below_drewN HB.out nq⟩, by show n - (j + 1 + 1 : Int).toNat < n - ((j + 1 : Nat) : Int).toNat; omega⟩
          rw [riseTo_succ, HRi.out, show j + 1 - 1 = j by omega, HX.out, HY.out, show decide (x < y) = true by simp; omega]; simp
    · obtain rfl : k = n := by omega
      go_wp2_with fail
      go_ret
      have e : r = true := by rw [HRr.out]; unfold riseB; rw [HN.out]; exact hrise
      subst e
      exact ⟨rfl, hb⟩
end Go.Proofs.Ytloglpamnalmeaa

/- CONTRACT: wire.list[int] with wire.seat. -/
namespace Go.Proofs.Ytloglpamnalmeaa
open Go.RowKit
set_option linter.unusedVariables false
set_option linter.unusedSimpArgs false

/-- the bytes of numbers, one each -/
def onesB (l : List Int) : List (BitVec 8) := l.flatMap (be · 1)
theorem onesB_len (l : List Int) : (onesB l).length = l.length := by
  unfold onesB
  induction l with
  | nil => rfl
  | cons z l ih => rw [List.flatMap_cons, List.length_append, be_len, ih, List.length_cons]; omega
theorem onesB_succ (l : List Int) (k : Nat) (z : Int) (h : l[k]? = some z) : onesB (l.take (k + 1)) = onesB (l.take k) ++ be z 1 := by
  unfold onesB; rw [List.take_add_one, List.flatMap_append, h]; simp
def out31 (l : List Int) : Bool := l.any (outOf · 31)
theorem out31_succ (l : List Int) (k : Nat) (z : Int) (h : l[k]? = some z) : out31 (l.take (k + 1)) = (out31 (l.take k) || outOf z 31) := by
  unfold out31; rw [List.take_add_one, List.any_append, h]; simp
theorem out31_take (l : List Int) (k : Nat) (h : out31 (l.take k) = true) : out31 l = true := by
  unfold out31 at *; rw [List.any_eq_true] at *
  obtain ⟨x, hx, h⟩ := h
  exact ⟨x, List.mem_of_mem_take hx, h⟩

set_option maxRecDepth 100000 in
set_option maxHeartbeats 1000000 in
theorem listNO_any {w : World} {B g : Nat} {xs : List (BitVec 8)} {bad : Bool} (hP : Pen w B g xs bad) {B' : Nat} {A : Option Addr} {n c : Nat} {l : List Int} (hr : Rd cI w B' A l) (hB' : B' ≤ B) (hn : l.length = n) (hy : n ≤ 1000000) (hi : ∀ z ∈ l, -9223372036854775808 ≤ z ∧ z < 9223372036854775808) (hx : xs.length ≤ 100000000) :
    Calls Try.prog 103 #[.pointer (some ⟨g, 0, none⟩), .slice A n c, .int .i64 32, .func (.func 74) #[] #[]] w fun e w' => e = .returned (.tuple #[]) ∧ (∃ ys, Pen w' B g (xs ++ ys) (bad || outOf n 32 || out31 l) ∧ ((bad || outOf n 32 || out31 l) = false → ys = be n 1 ++ onesB l) ∧ ys.length ≤ 1 + n) ∧ Below B w w' ∧ Oth w w' := by
  have HP := Lib.hid hP
  have HR := Lib.hid hr
  have HN := Lib.hid hn
  have HI := Lib.hid hi
  obtain ⟨b1, hb1⟩ : ∃ b1, b1 = (bad || outOf n 32) := ⟨_, rfl⟩
  have hnum := numberO_in hP (n : Int) 1 1 rfl 32 (by omega) (by omega) (by omega) (by omega)
  rw [← hb1] at hnum ⊢
  have HNum := Lib.hid hnum
  have hsz := hP.size
  clear hP hr hn hb1 hnum hi
  go_enter Try.func103, Try.ntmps103
  go_wp2_with fail
  refine HNum.out.mono ?_
  rintro e w1 ⟨rfl, hp1, hb1, ho1⟩
  have HO1 := Lib.hid ho1
  clear ho1
  have HP1 := Lib.hid hp1
  have HB1 := Lib.hid hb1
  clear hp1 hb1
  go_wp2_with fail
  go_loopw [9, 17] (fun xv iv wr => ∃ k : Nat, k ≤ n ∧ iv = .int .i64 (k : Int) ∧ Pen wr B g (xs ++ (be n 1 ++ onesB (l.take k))) (b1 || out31 (l.take k)) ∧ Below B w wr ∧ Oth w wr) (fun _ iv _ => n - (intOf iv).toNat)
  case atStart => exact ⟨0, by omega, rfl, HP1.out.cast (by simp [onesB]) (by simp [out31]), HB1.out, HO1.out⟩
  case round =>
    obtain ⟨k, hk, rfl, hp, hb, ho⟩ := hrel
    have HOr := Lib.hid ho
    clear ho
    have HPk := Lib.hid hp
    have HB := Lib.hid hb
    by_cases hlt : k < n
    · have hlt' : (k : Int) < (n : Int) := by omega
      obtain ⟨b, off, e1, hbb, hc1⟩ := (HR.out.below (hb.mono hB')).at_ (k := k) (by rw [HN.out]; omega)
      subst e1
      obtain ⟨z, hz⟩ : ∃ z, z = l[k]'(by rw [HN.out]; omega) := ⟨_, rfl⟩
      rw [← hz] at hc1
      have d1 : wr.cell? ⟨b, off + k, none⟩ = some (.int .i64 z) := hc1
      have hzk : l[k]? = some z := by rw [hz]; exact List.getElem?_eq_getElem _
      have HZ := Lib.hid hzk
      have hzi := HI.out z (List.mem_of_getElem? hzk)
      obtain ⟨q, hq⟩ : ∃ q, q = (b1 || out31 (l.take k)) := ⟨_, rfl⟩
      rw [← hq] at hp
      have HPq := Lib.hid hp
      have HQ := Lib.hid hq
      obtain ⟨v, h1, h2⟩ := hp.at_
      have c1 := h1.cell 1 rfl
      clear h1 h2 hp hb hc1 hz hzk hq
      cases q with
      | true =>
        go_wp2_with fail
        refine bodyPost_ret (results_none rfl _ _ _) rfl ?_
        refine ⟨rfl, ⟨be n 1 ++ onesB (l.take k), HPk.out.cast rfl ?_, ?_, by rw [List.length_append, be_len, onesB_len, List.length_take]; omega⟩, HB.out, HOr.out⟩
        · have h := HQ.out
          cases b1 with
          | true => simp
          | false => simp only [Bool.false_or] at h; rw [out31_take l k h.symm, h.symm]
        · intro h
          have h2 := HQ.out
          cases b1 with
          | true => simp at h
          | false => simp only [Bool.false_or] at h h2; rw [out31_take l k h2.symm] at h; cases h

      | false =>
        go_wp2_with fail
        refine (seatO_any HPq.out z hzi.1 hzi.2 (by rw [List.length_append, List.length_append, be_len, onesB_len, List.length_take]; omega)).mono ?_
        rintro e w2 ⟨rfl, hp2, hb2, ho2⟩
        have HO2 := Lib.hid ho2
        clear ho2
        have HP2 := Lib.hid hp2
        have HB2 := Lib.hid hb2
        clear hp2 hb2
        go_wp2_with fail
        refine ⟨⟨k + 1, by omega, by congr 1, ?_, HB.out.trans HB2.out, HOr.out.trans HO2.out⟩, by show n - ((k : Int) + 1).toNat < n - (k : Int).toNat; omega⟩
        refine HP2.out.cast ?_ ?_
        · rw [onesB_succ l k z HZ.out]; simp [List.append_assoc]
        · rw [out31_succ l k z HZ.out, ← Bool.or_assoc, ← HQ.out]

    · obtain rfl : k = n := by omega
      clear hp hb
      go_wp2_with fail
      go_end0
      have e1 : l.take k = l := List.take_of_length_le (by rw [HN.out]; omega)
      have h := HPk.out
      rw [e1] at h
      exact ⟨rfl, ⟨be k 1 ++ onesB l, h, fun _ => rfl, by rw [List.length_append, be_len, onesB_len, HN.out]; omega⟩, HB.out, HOr.out⟩
theorem listN_any {w : World} {B g : Nat} {xs : List (BitVec 8)} {bad : Bool} (hP : Pen w B g xs bad) {B' : Nat} {A : Option Addr} {n c : Nat} {l : List Int} (hr : Rd cI w B' A l) (hB' : B' ≤ B) (hn : l.length = n) (hy : n ≤ 1000000) (hi : ∀ z ∈ l, -9223372036854775808 ≤ z ∧ z < 9223372036854775808) (hx : xs.length ≤ 100000000) :
    Calls Try.prog 103 #[.pointer (some ⟨g, 0, none⟩), .slice A n c, .int .i64 32, .func (.func 74) #[] #[]] w fun e w' => e = .returned (.tuple #[]) ∧ (∃ ys, Pen w' B g (xs ++ ys) (bad || outOf n 32 || out31 l) ∧ ((bad || outOf n 32 || out31 l) = false → ys = be n 1 ++ onesB l) ∧ ys.length ≤ 1 + n) ∧ Below B w w' :=
  (listNO_any hP hr hB' hn hy hi hx).mono fun _ _ h => ⟨h.1, h.2.1, h.2.2.1⟩
end Go.Proofs.Ytloglpamnalmeaa
