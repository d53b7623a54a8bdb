/- CONTRACTS: the pen of package wire. -/
import Derived.Test.YtloglpamnalmeaaBase
import Derived.OwnWalk
namespace Go.Proofs.Ytloglpamnalmeaa
open Go.RowKit
set_option linter.unusedVariables false
set_option linter.unusedSimpArgs false

/-- byte i of a number, the lowest is byte 0 -/
def beAt (n : Int) (i : Nat) : BitVec 8 := BitVec.ofInt 8 (n / (2 : Int) ^ (8 * i))
/-- a number's bytes, the highest first -/
def be (n : Int) : Nat → List (BitVec 8)
  | 0 => []
  | s + 1 => beAt n s :: be n s
theorem be_len (n : Int) : ∀ s, (be n s).length = s
  | 0 => rfl
  | s + 1 => by simp [be, be_len n s]
/-- a pen at g: what it has written, and whether it's bad -/
structure Pen (w : World) (B g : Nat) (xs : List (BitVec 8)) (bad : Bool) : Prop where
  at_ : ∃ v, Blk w g 112 [v, .bool bad] ∧ Own b8 w B 5 v xs
  le : B ≤ g
section
variable {w w' : World} {B g : Nat} {xs ys : List (BitVec 8)} {bad bad' : Bool}
theorem Pen.lt (h : Pen w B g xs bad) : g < w.heap.size := by obtain ⟨⟨v, h1, h2⟩, h3⟩ := h; exact h1.lt
theorem Pen.size (h : Pen w B g xs bad) : B ≤ w.heap.size := by have := h.lt; have := h.le; omega
theorem Pen.drewN (h : Pen w B g xs bad) (k : Nat) : Pen (w.drewN k) B g xs bad := by obtain ⟨⟨v, h1, h2⟩, h3⟩ := h; exact ⟨⟨v, h1, h2⟩, h3⟩
theorem Pen.drew (h : Pen w B g xs bad) : Pen w.drew B g xs bad := by obtain ⟨⟨v, h1, h2⟩, h3⟩ := h; exact ⟨⟨v, h1, h2⟩, h3⟩
theorem Pen.alloc (h : Pen w B g xs bad) (o : Obj) : Pen (w.alloc o) B g xs bad := by obtain ⟨⟨v, h1, h2⟩, h3⟩ := h; exact ⟨⟨v, h1.alloc o, h2.alloc o⟩, h3⟩
theorem Pen.cast (h : Pen w B g xs bad) (e : xs = ys) (e' : bad = bad') : Pen w B g ys bad' := by subst e; subst e'; exact h
theorem Pen.below {C : Nat} (h : Pen w B g xs bad) (hb : Below C w w') (hC : w.heap.size ≤ C) : Pen w' B g xs bad := by
  obtain ⟨⟨v, h1, h2⟩, h3⟩ := h
  exact ⟨⟨v, h1.below hb (by have := h1.lt; omega), h2.below hb hC⟩, h3⟩
theorem Pen.setBad (h : Pen w B g xs bad) (u : Bool) : Pen (w.setCell ⟨g, 1, none⟩ (.bool u)) B g xs u := by
  obtain ⟨⟨v, h1, h2⟩, h3⟩ := h
  exact ⟨⟨v, h1.set_ 1 (.bool u), h2.kept (grownBy_set w g 1 _) (.inr (h1.not_row (by decide) h2).symm)⟩, h3⟩
/-- the blocks that are neither bytes nor pens stay -/
def Oth (w w' : World) : Prop := ∀ k T cs, T ≠ 5 → T ≠ 112 → Blk w k T cs → Blk w' k T cs
theorem Oth.refl (w : World) : Oth w w := fun _ _ _ _ _ h => h
theorem Oth.trans {w1 w2 w3 : World} (h : Oth w1 w2) (h' : Oth w2 w3) : Oth w1 w3 := fun k T cs a b c => h' k T cs a b (h k T cs a b c)
theorem Oth.alloc (h : Oth w w') (o : Obj) : Oth w (w'.alloc o) := fun k T cs a b c => (h k T cs a b c).alloc o
theorem Oth.drewN (h : Oth w w') (n : Nat) : Oth w (w'.drewN n) := fun k T cs a b c => (h k T cs a b c)
theorem Oth.set_ {g k0 : Nat} {cs0 : List Value} {u : Value} (hg : Blk w g 112 cs0) : Oth w (w.setCell ⟨g, k0, none⟩ u) := fun k T cs a b c => by
  refine c.far (p := ⟨g, k0, none⟩) ?_ u
  rintro rfl
  exact b (by have := c.symm.trans hg; simp only [Option.some.injEq, Obj.cells.injEq] at this; exact this.2.1)
theorem Oth.own {B : Nat} {v : Value} {xs : List (BitVec 8)} (h : Own b8 w B 5 v xs) (hg : w.grownBy w' v.ownBlock) : Oth w w' := fun k T cs a b c =>
  c.grown hg (c.not_row a h)
/-- bytes appended and stored -/
theorem pen_store {v v' : Value} {tmp : Obj} (h1 : Blk w g 112 [v, .bool bad]) (h2 : Own b8 w B 5 v xs) (hB : B ≤ g) (hg : (w.alloc tmp).grownBy w' v.ownBlock ∨ w.grownBy w' v.ownBlock) (h3 : Own b8 w' B 5 v' ys) :
    Blk w' g 112 [v, .bool bad] ∧ Pen (w'.setCell ⟨g, 0, none⟩ v') B g ys bad ∧ Oth w (w'.setCell ⟨g, 0, none⟩ v') := by
  have hk : Blk w' g 112 [v, .bool bad] := by
    rcases hg with hg | hg
    · exact (h1.alloc tmp).grown hg (h1.not_row (by decide) h2)
    · exact h1.grown hg (h1.not_row (by decide) h2)
  have ho : Oth w w' := by
    rcases hg with hg | hg
    · exact fun k T cs a b c => (c.alloc tmp).grown hg ((c.alloc tmp).not_row a (h2.alloc tmp))
    · exact Oth.own h2 hg
  exact ⟨hk, ⟨⟨v', hk.set_ 0 v', h3.kept (grownBy_set w' g 0 _) (.inr (hk.not_row (by decide) h3).symm)⟩, hB⟩, ho.trans (Oth.set_ hk)⟩
end
theorem pen_of {w : World} {B g : Nat} {v : Value} {xs : List (BitVec 8)} {bad : Bool} (h1 : Blk w g 112 [v, .bool bad]) (h2 : Own b8 w B 5 v xs) (h3 : B ≤ g) : Pen w B g xs bad := ⟨⟨v, h1, h2⟩, h3⟩

set_option maxRecDepth 100000 in
set_option maxHeartbeats 1000000 in
theorem bytesO_any {w : World} {B g : Nat} {xs : List (BitVec 8)} {bad : Bool} (hP : Pen w B g xs bad) {B' : Nat} {A : Option Addr} {n c : Nat} {ys : List (BitVec 8)} (hr : Rd b8 w B' A ys) (hB' : B' ≤ w.heap.size) (hn : ys.length = n) (hx : xs.length ≤ 1000000000) (hy : n ≤ 1000000000) :
    Calls Try.prog 73 #[.pointer (some ⟨g, 0, none⟩), .slice A n c] w fun e w' => e = .returned (.tuple #[]) ∧ Pen w' B g (xs ++ ys) bad ∧ Below B w w' ∧ Oth w w' := by
  obtain ⟨i0, hi0, hz0, hz1, hz2⟩ := info_parts infoU8
  obtain ⟨⟨v, h1, h2⟩, h3⟩ := hP
  have H1 := Lib.hid h1
  have H2 := Lib.hid h2
  have HR := Lib.hid hr
  have HN := Lib.hid hn
  have c0 := h1.cell 0 rfl
  have f0 := h1.frozen 0
  have hlt := h1.lt
  clear h1 h2 hr hn
  go_enter Try.func73, Try.ntmps73
  go_wp2_with (at_builtin; refine wpList_append_rd rfl (.tmp 8) (.tmp 9) 24 rfl b8_one B 5 i0 _ 1 Try.underlying24 hi0 hz0 hz1 hz2 rfl _ _ rfl H2.out B' A n c ys rfl HN.out.symm HR.out (by simp [maxLen]; have := HN.out; omega) (by have := HN.out; simp; omega) (by omega) ?_; intro v2 w2 hown2 hg2 hb2; obtain ⟨A2, c2, rfl, -, -, -, -⟩ := hown2.shape; have hst := pen_store (tmp := .cells #[] 0) H1.out H2.out h3 (.inr hg2.by_) hown2; have f2 := hst.1.frozen 0; have c2' := hst.1.cell 0 rfl; have HS2 := Lib.hid hst.2.1; have HO2 := Lib.hid hst.2.2; have HB2 := Lib.hid (hb2 B w (Nat.le_refl _) (Below.refl _ _)); clear hown2 hg2 hb2 hst)
  go_end0
  exact ⟨rfl, by simpa using HS2.out, HB2.out.setCell (p := ⟨g, 0, none⟩) h3 _, by simpa using HO2.out⟩
theorem bytes_any {w : World} {B g : Nat} {xs : List (BitVec 8)} {bad : Bool} (hP : Pen w B g xs bad) {B' : Nat} {A : Option Addr} {n c : Nat} {ys : List (BitVec 8)} (hr : Rd b8 w B' A ys) (hB' : B' ≤ w.heap.size) (hn : ys.length = n) (hx : xs.length ≤ 1000000000) (hy : n ≤ 1000000000) :
    Calls Try.prog 73 #[.pointer (some ⟨g, 0, none⟩), .slice A n c] w fun e w' => e = .returned (.tuple #[]) ∧ Pen w' B g (xs ++ ys) bad ∧ Below B w w' :=
  (bytesO_any hP hr hB' hn hx hy).mono fun _ _ h => ⟨h.1, h.2.1, h.2.2.1⟩

theorem be_take (n : Int) : ∀ (s k i : Nat), k + i + 1 = s → (be n s).take (k + 1) = (be n s).take k ++ [beAt n i]
  | 0, k, i, h => by omega
  | s + 1, 0, i, h => by obtain rfl : i = s := by omega
                         simp [be]
  | s + 1, k + 1, i, h => by simp only [be, List.take_succ_cons, List.cons_append]; rw [be_take n s k i (by omega)]
theorem beAt_conv (n : Int) (i : Nat) : IntKind.u8.wrap (n / 2 ^ (8 * i)) = bv (beAt n i) := by
  unfold beAt bv
  rw [BitVec.toNat_ofInt, wrap_u8v]; omega
theorem intpow (n : Nat) : ((2 : Int) ^ n) = ((2 ^ n : Nat) : Int) := by push_cast; rfl

set_option maxRecDepth 100000 in
set_option maxHeartbeats 2000000 in
theorem numberO_any {w : World} {B g : Nat} {xs : List (BitVec 8)} {bad : Bool} (hP : Pen w B g xs bad) (n : Int) (s : Nat) (most : Int) (hn1 : -9223372036854775808 ≤ n) (hn2 : n < 9223372036854775808) (hs : s ≤ 8) (hx : xs.length ≤ 1000000000) :
    Calls Try.prog 50 #[.pointer (some ⟨g, 0, none⟩), .int .i64 n, .int .i64 s, .int .i64 most] w fun e w' => e = .returned (.tuple #[]) ∧ Pen w' B g (xs ++ be n s) (bad || (decide (n < 0) || decide (most < n))) ∧ Below B w w' ∧ Oth w w' := by
  obtain ⟨i0, hi0, hz0, hz1, hz2⟩ := info_parts infoU8
  have HP := Lib.hid hP
  obtain ⟨v, h1, h2⟩ := hP.at_
  have hle := hP.le
  have c1 := h1.cell 1 rfl
  have f1 := h1.frozen 1
  have HH := Lib.hid (show Oth w (w.setCell ⟨g, 1, none⟩ (.bool true)) from Oth.set_ h1)
  clear h1 h2 hP
  by_cases hlo : n < 0
  · obtain ⟨bad', hbad'⟩ : ∃ b, b = (bad || (decide (n < 0) || decide (most < n))) := ⟨_, rfl⟩
    have HP' := Lib.hid (show Pen (w.setCell ⟨g, 1, none⟩ (.bool true)) B g xs bad' from (HP.out.setBad true).cast rfl (by rw [hbad']; simp [hlo]))
    have HB' := Lib.hid (show Below B w (w.setCell ⟨g, 1, none⟩ (.bool true)) from (Below.refl _ _).setCell (p := ⟨g, 1, none⟩) hle _)
    have HO' := Lib.hid (show Oth w (w.setCell ⟨g, 1, none⟩ (.bool true)) from HH.out)
    rw [← hbad']
    clear hbad'
    go_enter Try.func50, Try.ntmps50
    go_wp2
    go_loopw [8] (fun iv wr => ∃ (k j : Nat), k + j = s ∧ iv = .int .i64 ((j : Int) - 1) ∧ Pen wr B g (xs ++ (be n s).take k) bad' ∧ Below B w wr ∧ Oth w wr) (fun iv _ => (intOf iv + 1).toNat)
    case atStart => exact ⟨0, s, by omega, rfl, by simpa using HP'.out, HB'.out, HO'.out⟩
    case round =>
      obtain ⟨k, j, hkj, rfl, hp, hb, ho⟩ := hrel
      have HOr := Lib.hid ho
      clear ho
      by_cases hj : j = 0
      · subst hj
        rw [show (((0 : Nat) : Int) - 1) = -1 by omega]
        go_wp2_with fail
        go_end0
        exact ⟨rfl, hp.cast (by rw [List.take_of_length_le (by rw [be_len]; omega)]) rfl, hb, HOr.out⟩
      · obtain ⟨i, rfl⟩ : ∃ i, j = i + 1 := ⟨j - 1, by omega⟩
        rw [show (((i + 1 : Nat) : Int) - 1) = (i : Int) by omega]
        have hi8 : i < 8 := by omega
        obtain ⟨⟨vv, p1, p2⟩, p3⟩ := hp
        have hw8 : IntKind.i64.wrap (8 * (i : Int)) = 8 * (i : Int) := IntWalk.i64_in _ (by omega)
        have hi0' : (0 : Int) ≤ 8 * (i : Int) := by omega
        have hi64 : 8 * (i : Int) ≤ 64 := by omega
        have hnat : (8 * (i : Int)).toNat = 8 * i := by omega
        have hcv := beAt_conv n i
        have Hp1 := Lib.hid p1
        have p1' : Blk wr.drew g 112 [vv, .bool bad'] := p1
        have Hb := Lib.hid hb
        have c0 := p1.cell 0 rfl
        have hlt := p1.lt
        have htk : (be n s).take (k + 1) = (be n s).take k ++ [beAt n i] := be_take n s k i (by omega)
        have Htk := Lib.hid htk
        have hlen : (xs ++ (be n s).take k).length ≤ 1000000008 := by rw [List.length_append, List.length_take, be_len]; omega
        obtain ⟨ys, hys⟩ : ∃ ys, ys = xs ++ (be n s).take k := ⟨_, rfl⟩
        rw [← hys] at hlen p2
        have Hp2 := Lib.hid p2
        have Hys := Lib.hid hys
        clear p1 p2 hb htk hys
        go_wp2_with fail
        refine wp_region_Y (by kernel_rfl) (fun w' : World => w'.cell? ⟨g, 0, none⟩ = some vv) 14 ?_
        have hS : (fun w' : World => w'.cell? ⟨g, 0, none⟩ = some vv) wr.drew := c0
        refine wpAnyY_pure (i := 0) (v := .pointer (some ⟨g, 0, none⟩)) rfl (by kernel_rfl) (by kernel_rfl) (by kernel_rfl) (by kernel_rfl) (fun _ _ _ h => h) (Or.inl ⟨by rfl, ?_⟩) hS ?_
        · intro w' hw'
          go_simp
        try simp only [Act.put, List.setIfInBounds_toArray, List.set_cons_zero, List.set_cons_succ]
        refine wpAnyY_pure (i := 1) (v := .pointer (some ⟨g, 0, none⟩)) rfl (by kernel_rfl) (by kernel_rfl) (by kernel_rfl) (by kernel_rfl) (fun _ _ _ h => h) (Or.inl ⟨by rfl, ?_⟩) hS ?_
        · intro w' hw'
          go_simp
        try simp only [Act.put, List.setIfInBounds_toArray, List.set_cons_zero, List.set_cons_succ]
        refine wpAnyY_pure (i := 2) (v := .pointer (some ⟨g, 0, none⟩)) rfl (by kernel_rfl) (by kernel_rfl) (by kernel_rfl) (by kernel_rfl) (fun _ _ _ h => h) (Or.inl ⟨by rfl, ?_⟩) hS ?_
        · intro w' hw'
          go_simp
        try simp only [Act.put, List.setIfInBounds_toArray, List.set_cons_zero, List.set_cons_succ]
        refine wpAnyY_pure (i := 3) (v := .pointer (some ⟨g, 0, none⟩)) rfl (by kernel_rfl) (by kernel_rfl) (by kernel_rfl) (by kernel_rfl) (fun _ _ _ h => h) (Or.inl ⟨by rfl, ?_⟩) hS ?_
        · intro w' hw'
          go_simp
        try simp only [Act.put, List.setIfInBounds_toArray, List.set_cons_zero, List.set_cons_succ]
        refine wpAnyY_take (i := 4) (v := vv) rfl (by kernel_rfl) (by kernel_rfl) (by kernel_rfl) (by kernel_rfl) (by kernel_rfl) (fun _ _ _ h => h) (Or.inl ⟨by rfl, ?_⟩) hS ?_
        · intro w' hw'
          go_simp
        try simp only [Act.put, List.setIfInBounds_toArray, List.set_cons_zero, List.set_cons_succ]
        refine wpAnyY_pure (i := 5) (v := .int .i64 n) rfl (by kernel_rfl) (by kernel_rfl) (by kernel_rfl) (by kernel_rfl) (fun _ _ _ h => h) (Or.inl ⟨by rfl, ?_⟩) hS ?_
        · intro w' hw'
          go_simp
        try simp only [Act.put, List.setIfInBounds_toArray, List.set_cons_zero, List.set_cons_succ]
        refine wpAnyY_pure (i := 6) (v := .int .i64 i) rfl (by kernel_rfl) (by kernel_rfl) (by kernel_rfl) (by kernel_rfl) (fun _ _ _ h => h) (Or.inl ⟨by rfl, ?_⟩) hS ?_
        · intro w' hw'
          go_simp
        try simp only [Act.put, List.setIfInBounds_toArray, List.set_cons_zero, List.set_cons_succ]
        refine wpAnyY_pure (i := 7) (v := .int .i64 (8 * (i : Int))) rfl (by kernel_rfl) (by kernel_rfl) (by kernel_rfl) (by kernel_rfl) (fun _ _ _ h => h) (Or.inl ⟨by rfl, ?_⟩) hS ?_
        · intro w' hw'
          go_simp
        try simp only [Act.put, List.setIfInBounds_toArray, List.set_cons_zero, List.set_cons_succ]
        refine wpAnyY_pure (i := 8) (v := .int .i64 (n / (2 : Int) ^ (8 * i))) rfl (by kernel_rfl) (by kernel_rfl) (by kernel_rfl) (by kernel_rfl) (fun _ _ _ h => h) (Or.inl ⟨by rfl, ?_⟩) hS ?_
        · intro w' hw'
          go_simp
        try simp only [Act.put, List.setIfInBounds_toArray, List.set_cons_zero, List.set_cons_succ]
        refine wpAnyY_pure (i := 9) (v := .int .u8 (bv (beAt n i))) rfl (by kernel_rfl) (by kernel_rfl) (by kernel_rfl) (by kernel_rfl) (fun _ _ _ h => h) (Or.inl ⟨by rfl, ?_⟩) hS ?_
        · intro w' hw'
          go_simp
        try simp only [Act.put, List.setIfInBounds_toArray, List.set_cons_zero, List.set_cons_succ]
        refine wpAnyY_one (i := 10) (by kernel_rfl) rfl (fun K' hK => ?_)
        go_simp
        refine hK _ _ (fun _ => (p1'.alloc _).cell 0 rfl) ?_
        clear hK K'
        try simp only [Act.put, List.setIfInBounds_toArray, List.set_cons_zero, List.set_cons_succ]
        refine wpAnyY_one (i := 11) (by kernel_rfl) rfl (fun K' hK => ?_)
        refine step_append_rd rfl (.tmp 29) (.tmp 35) 24 rfl b8_one B 5 i0 _ 1 Try.underlying24 hi0 hz0 hz1 hz2 rfl _ _ rfl (Hp2.out.drew.alloc _) (wr.heap.size + 1) _ 1 1 [beAt n i] rfl rfl (Rd.new b8 wr.drew 5 [beAt n i]) (by simp [maxLen]; omega) (by simp; omega) (by rw [show ∀ W : World, W.drew.heap.size = W.heap.size from fun _ => rfl, World.size_alloc]; omega) ?_
        intro v7 w7 hown7 hg7 hbb7
        have hst := pen_store (w := wr.drew) p1' Hp2.out p3 (.inl hg7.by_) hown7
        have hb7 : Below B wr w7 := hbb7 _ _ (Nat.le_refl _) (((Below.refl B wr).drew).alloc (by show B ≤ wr.heap.size; omega) _)
        obtain ⟨A7, cv7, rfl, -, -, -, -⟩ := hown7.shape' (n := ys.length + 1) (by simp)
        have f7 := hst.1.frozen 0
        have c7 := hst.1.cell 0 rfl
        refine hK _ _ (fun _ => c7) ?_
        clear hK K'
        try simp only [Act.put, List.setIfInBounds_toArray, List.set_cons_zero, List.set_cons_succ]
        refine wpAnyY_one (i := 12) (by kernel_rfl) rfl (fun K' hK => ?_)
        go_simp
        refine hK _ _ (fun _ => c7) ?_
        clear hK K'
        try simp only [Act.put, List.setIfInBounds_toArray, List.set_cons_zero, List.set_cons_succ]
        refine wpAnyY_one (i := 13) (by kernel_rfl) rfl (fun K' hK => ?_)
        go_simp
        refine hK _ _ (fun _ => c7) ?_
        clear hK K'
        try simp only [Act.put, List.setIfInBounds_toArray, List.set_cons_zero, List.set_cons_succ]
        refine wpAnyY_one (i := 14) (by kernel_rfl) rfl (fun K' hK => ?_)
        go_simp
        refine hK _ _ (fun h => absurd rfl h) (wpAnyY_done (by kernel_rfl) ?_ _)
        clear hK K' hw8 hi0' hi64 hnat hcv
        have HS7 := Lib.hid hst.2.1
        have HO7 := Lib.hid hst.2.2
        have HB7 := Lib.hid hb7
        clear hst hb7 hown7 hg7 hbb7
        go_wp2_with fail
        refine ⟨⟨k + 1, i, by omega, rfl, HS7.out.cast (by rw [Htk.out, Hys.out, List.append_assoc]) rfl, (Hb.out.trans HB7.out).setCell (p := ⟨g, 0, none⟩) p3 _, HOr.out.trans HO7.out⟩, by simp [intOf]⟩
  · have hlo' : (n < 0) = False := by simp; omega
    by_cases hhi : most < n
    · obtain ⟨bad', hbad'⟩ : ∃ b, b = (bad || (decide (n < 0) || decide (most < n))) := ⟨_, rfl⟩
      have HP' := Lib.hid (show Pen (w.setCell ⟨g, 1, none⟩ (.bool true)) B g xs bad' from (HP.out.setBad true).cast rfl (by rw [hbad']; simp [hhi]))
      have HB' := Lib.hid (show Below B w (w.setCell ⟨g, 1, none⟩ (.bool true)) from (Below.refl _ _).setCell (p := ⟨g, 1, none⟩) hle _)
      have HO' := Lib.hid (show Oth w (w.setCell ⟨g, 1, none⟩ (.bool true)) from HH.out)
      rw [← hbad']
      clear hbad'
      go_enter Try.func50, Try.ntmps50
      go_wp2
      go_loopw [8] (fun iv wr => ∃ (k j : Nat), k + j = s ∧ iv = .int .i64 ((j : Int) - 1) ∧ Pen wr B g (xs ++ (be n s).take k) bad' ∧ Below B w wr ∧ Oth w wr) (fun iv _ => (intOf iv + 1).toNat)
      case atStart => exact ⟨0, s, by omega, rfl, by simpa using HP'.out, HB'.out, HO'.out⟩
      case round =>
        obtain ⟨k, j, hkj, rfl, hp, hb, ho⟩ := hrel
        have HOr := Lib.hid ho
        clear ho
        by_cases hj : j = 0
        · subst hj
          rw [show (((0 : Nat) : Int) - 1) = -1 by omega]
          go_wp2_with fail
          go_end0
          exact ⟨rfl, hp.cast (by rw [List.take_of_length_le (by rw [be_len]; omega)]) rfl, hb, HOr.out⟩
        · obtain ⟨i, rfl⟩ : ∃ i, j = i + 1 := ⟨j - 1, by omega⟩
          rw [show (((i + 1 : Nat) : Int) - 1) = (i : Int) by omega]
          have hi8 : i < 8 := by omega
          obtain ⟨⟨vv, p1, p2⟩, p3⟩ := hp
          have hw8 : IntKind.i64.wrap (8 * (i : Int)) = 8 * (i : Int) := IntWalk.i64_in _ (by omega)
          have hi0' : (0 : Int) ≤ 8 * (i : Int) := by omega
          have hi64 : 8 * (i : Int) ≤ 64 := by omega
          have hnat : (8 * (i : Int)).toNat = 8 * i := by omega
          have hcv := beAt_conv n i
          have Hp1 := Lib.hid p1
          have p1' : Blk wr.drew g 112 [vv, .bool bad'] := p1
          have Hb := Lib.hid hb
          have c0 := p1.cell 0 rfl
          have hlt := p1.lt
          have htk : (be n s).take (k + 1) = (be n s).take k ++ [beAt n i] := be_take n s k i (by omega)
          have Htk := Lib.hid htk
          have hlen : (xs ++ (be n s).take k).length ≤ 1000000008 := by rw [List.length_append, List.length_take, be_len]; omega
          obtain ⟨ys, hys⟩ : ∃ ys, ys = xs ++ (be n s).take k := ⟨_, rfl⟩
          rw [← hys] at hlen p2
          have Hp2 := Lib.hid p2
          have Hys := Lib.hid hys
          clear p1 p2 hb htk hys
          go_wp2_with fail
          refine wp_region_Y (by kernel_rfl) (fun w' : World => w'.cell? ⟨g, 0, none⟩ = some vv) 14 ?_
          have hS : (fun w' : World => w'.cell? ⟨g, 0, none⟩ = some vv) wr.drew := c0
          refine wpAnyY_pure (i := 0) (v := .pointer (some ⟨g, 0, none⟩)) rfl (by kernel_rfl) (by kernel_rfl) (by kernel_rfl) (by kernel_rfl) (fun _ _ _ h => h) (Or.inl ⟨by rfl, ?_⟩) hS ?_
          · intro w' hw'
            go_simp
          try simp only [Act.put, List.setIfInBounds_toArray, List.set_cons_zero, List.set_cons_succ]
          refine wpAnyY_pure (i := 1) (v := .pointer (some ⟨g, 0, none⟩)) rfl (by kernel_rfl) (by kernel_rfl) (by kernel_rfl) (by kernel_rfl) (fun _ _ _ h => h) (Or.inl ⟨by rfl, ?_⟩) hS ?_
          · intro w' hw'
            go_simp
          try simp only [Act.put, List.setIfInBounds_toArray, List.set_cons_zero, List.set_cons_succ]
          refine wpAnyY_pure (i := 2) (v := .pointer (some ⟨g, 0, none⟩)) rfl (by kernel_rfl) (by kernel_rfl) (by kernel_rfl) (by kernel_rfl) (fun _ _ _ h => h) (Or.inl ⟨by rfl, ?_⟩) hS ?_
          · intro w' hw'
            go_simp
          try simp only [Act.put, List.setIfInBounds_toArray, List.set_cons_zero, List.set_cons_succ]
          refine wpAnyY_pure (i := 3) (v := .pointer (some ⟨g, 0, none⟩)) rfl (by kernel_rfl) (by kernel_rfl) (by kernel_rfl) (by kernel_rfl) (fun _ _ _ h => h) (Or.inl ⟨by rfl, ?_⟩) hS ?_
          · intro w' hw'
            go_simp
          try simp only [Act.put, List.setIfInBounds_toArray, List.set_cons_zero, List.set_cons_succ]
          refine wpAnyY_take (i := 4) (v := vv) rfl (by kernel_rfl) (by kernel_rfl) (by kernel_rfl) (by kernel_rfl) (by kernel_rfl) (fun _ _ _ h => h) (Or.inl ⟨by rfl, ?_⟩) hS ?_
          · intro w' hw'
            go_simp
          try simp only [Act.put, List.setIfInBounds_toArray, List.set_cons_zero, List.set_cons_succ]
          refine wpAnyY_pure (i := 5) (v := .int .i64 n) rfl (by kernel_rfl) (by kernel_rfl) (by kernel_rfl) (by kernel_rfl) (fun _ _ _ h => h) (Or.inl ⟨by rfl, ?_⟩) hS ?_
          · intro w' hw'
            go_simp
          try simp only [Act.put, List.setIfInBounds_toArray, List.set_cons_zero, List.set_cons_succ]
          refine wpAnyY_pure (i := 6) (v := .int .i64 i) rfl (by kernel_rfl) (by kernel_rfl) (by kernel_rfl) (by kernel_rfl) (fun _ _ _ h => h) (Or.inl ⟨by rfl, ?_⟩) hS ?_
          · intro w' hw'
            go_simp
          try simp only [Act.put, List.setIfInBounds_toArray, List.set_cons_zero, List.set_cons_succ]
          refine wpAnyY_pure (i := 7) (v := .int .i64 (8 * (i : Int))) rfl (by kernel_rfl) (by kernel_rfl) (by kernel_rfl) (by kernel_rfl) (fun _ _ _ h => h) (Or.inl ⟨by rfl, ?_⟩) hS ?_
          · intro w' hw'
            go_simp
          try simp only [Act.put, List.setIfInBounds_toArray, List.set_cons_zero, List.set_cons_succ]
          refine wpAnyY_pure (i := 8) (v := .int .i64 (n / (2 : Int) ^ (8 * i))) rfl (by kernel_rfl) (by kernel_rfl) (by kernel_rfl) (by kernel_rfl) (fun _ _ _ h => h) (Or.inl ⟨by rfl, ?_⟩) hS ?_
          · intro w' hw'
            go_simp
          try simp only [Act.put, List.setIfInBounds_toArray, List.set_cons_zero, List.set_cons_succ]
          refine wpAnyY_pure (i := 9) (v := .int .u8 (bv (beAt n i))) rfl (by kernel_rfl) (by kernel_rfl) (by kernel_rfl) (by kernel_rfl) (fun _ _ _ h => h) (Or.inl ⟨by rfl, ?_⟩) hS ?_
          · intro w' hw'
            go_simp
          try simp only [Act.put, List.setIfInBounds_toArray, List.set_cons_zero, List.set_cons_succ]
          refine wpAnyY_one (i := 10) (by kernel_rfl) rfl (fun K' hK => ?_)
          go_simp
          refine hK _ _ (fun _ => (p1'.alloc _).cell 0 rfl) ?_
          clear hK K'
          try simp only [Act.put, List.setIfInBounds_toArray, List.set_cons_zero, List.set_cons_succ]
          refine wpAnyY_one (i := 11) (by kernel_rfl) rfl (fun K' hK => ?_)
          refine step_append_rd rfl (.tmp 29) (.tmp 35) 24 rfl b8_one B 5 i0 _ 1 Try.underlying24 hi0 hz0 hz1 hz2 rfl _ _ rfl (Hp2.out.drew.alloc _) (wr.heap.size + 1) _ 1 1 [beAt n i] rfl rfl (Rd.new b8 wr.drew 5 [beAt n i]) (by simp [maxLen]; omega) (by simp; omega) (by rw [show ∀ W : World, W.drew.heap.size = W.heap.size from fun _ => rfl, World.size_alloc]; omega) ?_
          intro v7 w7 hown7 hg7 hbb7
          have hst := pen_store (w := wr.drew) p1' Hp2.out p3 (.inl hg7.by_) hown7
          have hb7 : Below B wr w7 := hbb7 _ _ (Nat.le_refl _) (((Below.refl B wr).drew).alloc (by show B ≤ wr.heap.size; omega) _)
          obtain ⟨A7, cv7, rfl, -, -, -, -⟩ := hown7.shape' (n := ys.length + 1) (by simp)
          have f7 := hst.1.frozen 0
          have c7 := hst.1.cell 0 rfl
          refine hK _ _ (fun _ => c7) ?_
          clear hK K'
          try simp only [Act.put, List.setIfInBounds_toArray, List.set_cons_zero, List.set_cons_succ]
          refine wpAnyY_one (i := 12) (by kernel_rfl) rfl (fun K' hK => ?_)
          go_simp
          refine hK _ _ (fun _ => c7) ?_
          clear hK K'
          try simp only [Act.put, List.setIfInBounds_toArray, List.set_cons_zero, List.set_cons_succ]
          refine wpAnyY_one (i := 13) (by kernel_rfl) rfl (fun K' hK => ?_)
          go_simp
          refine hK _ _ (fun _ => c7) ?_
          clear hK K'
          try simp only [Act.put, List.setIfInBounds_toArray, List.set_cons_zero, List.set_cons_succ]
          refine wpAnyY_one (i := 14) (by kernel_rfl) rfl (fun K' hK => ?_)
          go_simp
          refine hK _ _ (fun h => absurd rfl h) (wpAnyY_done (by kernel_rfl) ?_ _)
          clear hK K' hw8 hi0' hi64 hnat hcv
          have HS7 := Lib.hid hst.2.1
          have HO7 := Lib.hid hst.2.2
          have HB7 := Lib.hid hb7
          clear hst hb7 hown7 hg7 hbb7
          go_wp2_with fail
          refine ⟨⟨k + 1, i, by omega, rfl, HS7.out.cast (by rw [Htk.out, Hys.out, List.append_assoc]) rfl, (Hb.out.trans HB7.out).setCell (p := ⟨g, 0, none⟩) p3 _, HOr.out.trans HO7.out⟩, by simp [intOf]⟩
    · obtain ⟨bad', hbad'⟩ : ∃ b, b = (bad || (decide (n < 0) || decide (most < n))) := ⟨_, rfl⟩
      have HP' := Lib.hid (show Pen w B g xs bad' from HP.out.cast rfl (by rw [hbad']; simp [hlo, hhi]))
      have HB' := Lib.hid (Below.refl B w)
      have HO' := Lib.hid (Oth.refl w)
      have hhi' : (most < n) = False := by simp; omega
      rw [← hbad']
      clear hbad'
      go_enter Try.func50, Try.ntmps50
      go_wp2
      go_loopw [8] (fun iv wr => ∃ (k j : Nat), k + j = s ∧ iv = .int .i64 ((j : Int) - 1) ∧ Pen wr B g (xs ++ (be n s).take k) bad' ∧ Below B w wr ∧ Oth w wr) (fun iv _ => (intOf iv + 1).toNat)
      case atStart => exact ⟨0, s, by omega, rfl, by simpa using HP'.out, HB'.out, HO'.out⟩
      case round =>
        obtain ⟨k, j, hkj, rfl, hp, hb, ho⟩ := hrel
        have HOr := Lib.hid ho
        clear ho
        by_cases hj : j = 0
        · subst hj
          rw [show (((0 : Nat) : Int) - 1) = -1 by omega]
          go_wp2_with fail
          go_end0
          exact ⟨rfl, hp.cast (by rw [List.take_of_length_le (by rw [be_len]; omega)]) rfl, hb, HOr.out⟩
        · obtain ⟨i, rfl⟩ : ∃ i, j = i + 1 := ⟨j - 1, by omega⟩
          rw [show (((i + 1 : Nat) : Int) - 1) = (i : Int) by omega]
          have hi8 : i < 8 := by omega
          obtain ⟨⟨vv, p1, p2⟩, p3⟩ := hp
          have hw8 : IntKind.i64.wrap (8 * (i : Int)) = 8 * (i : Int) := IntWalk.i64_in _ (by omega)
          have hi0' : (0 : Int) ≤ 8 * (i : Int) := by omega
          have hi64 : 8 * (i : Int) ≤ 64 := by omega
          have hnat : (8 * (i : Int)).toNat = 8 * i := by omega
          have hcv := beAt_conv n i
          have Hp1 := Lib.hid p1
          have p1' : Blk wr.drew g 112 [vv, .bool bad'] := p1
          have Hb := Lib.hid hb
          have c0 := p1.cell 0 rfl
          have hlt := p1.lt
          have htk : (be n s).take (k + 1) = (be n s).take k ++ [beAt n i] := be_take n s k i (by omega)
          have Htk := Lib.hid htk
          have hlen : (xs ++ (be n s).take k).length ≤ 1000000008 := by rw [List.length_append, List.length_take, be_len]; omega
          obtain ⟨ys, hys⟩ : ∃ ys, ys = xs ++ (be n s).take k := ⟨_, rfl⟩
          rw [← hys] at hlen p2
          have Hp2 := Lib.hid p2
          have Hys := Lib.hid hys
          clear p1 p2 hb htk hys
          go_wp2_with fail
          refine wp_region_Y (by kernel_rfl) (fun w' : World => w'.cell? ⟨g, 0, none⟩ = some vv) 14 ?_
          have hS : (fun w' : World => w'.cell? ⟨g, 0, none⟩ = some vv) wr.drew := c0
          refine wpAnyY_pure (i := 0) (v := .pointer (some ⟨g, 0, none⟩)) rfl (by kernel_rfl) (by kernel_rfl) (by kernel_rfl) (by kernel_rfl) (fun _ _ _ h => h) (Or.inl ⟨by rfl, ?_⟩) hS ?_
          · intro w' hw'
            go_simp
          try simp only [Act.put, List.setIfInBounds_toArray, List.set_cons_zero, List.set_cons_succ]
          refine wpAnyY_pure (i := 1) (v := .pointer (some ⟨g, 0, none⟩)) rfl (by kernel_rfl) (by kernel_rfl) (by kernel_rfl) (by kernel_rfl) (fun _ _ _ h => h) (Or.inl ⟨by rfl, ?_⟩) hS ?_
          · intro w' hw'
            go_simp
          try simp only [Act.put, List.setIfInBounds_toArray, List.set_cons_zero, List.set_cons_succ]
          refine wpAnyY_pure (i := 2) (v := .pointer (some ⟨g, 0, none⟩)) rfl (by kernel_rfl) (by kernel_rfl) (by kernel_rfl) (by kernel_rfl) (fun _ _ _ h => h) (Or.inl ⟨by rfl, ?_⟩) hS ?_
          · intro w' hw'
            go_simp
          try simp only [Act.put, List.setIfInBounds_toArray, List.set_cons_zero, List.set_cons_succ]
          refine wpAnyY_pure (i := 3) (v := .pointer (some ⟨g, 0, none⟩)) rfl (by kernel_rfl) (by kernel_rfl) (by kernel_rfl) (by kernel_rfl) (fun _ _ _ h => h) (Or.inl ⟨by rfl, ?_⟩) hS ?_
          · intro w' hw'
            go_simp
          try simp only [Act.put, List.setIfInBounds_toArray, List.set_cons_zero, List.set_cons_succ]
          refine wpAnyY_take (i := 4) (v := vv) rfl (by kernel_rfl) (by kernel_rfl) (by kernel_rfl) (by kernel_rfl) (by kernel_rfl) (fun _ _ _ h => h) (Or.inl ⟨by rfl, ?_⟩) hS ?_
          · intro w' hw'
            go_simp
          try simp only [Act.put, List.setIfInBounds_toArray, List.set_cons_zero, List.set_cons_succ]
          refine wpAnyY_pure (i := 5) (v := .int .i64 n) rfl (by kernel_rfl) (by kernel_rfl) (by kernel_rfl) (by kernel_rfl) (fun _ _ _ h => h) (Or.inl ⟨by rfl, ?_⟩) hS ?_
          · intro w' hw'
            go_simp
          try simp only [Act.put, List.setIfInBounds_toArray, List.set_cons_zero, List.set_cons_succ]
          refine wpAnyY_pure (i := 6) (v := .int .i64 i) rfl (by kernel_rfl) (by kernel_rfl) (by kernel_rfl) (by kernel_rfl) (fun _ _ _ h => h) (Or.inl ⟨by rfl, ?_⟩) hS ?_
          · intro w' hw'
            go_simp
          try simp only [Act.put, List.setIfInBounds_toArray, List.set_cons_zero, List.set_cons_succ]
          refine wpAnyY_pure (i := 7) (v := .int .i64 (8 * (i : Int))) rfl (by kernel_rfl) (by kernel_rfl) (by kernel_rfl) (by kernel_rfl) (fun _ _ _ h => h) (Or.inl ⟨by rfl, ?_⟩) hS ?_
          · intro w' hw'
            go_simp
          try simp only [Act.put, List.setIfInBounds_toArray, List.set_cons_zero, List.set_cons_succ]
          refine wpAnyY_pure (i := 8) (v := .int .i64 (n / (2 : Int) ^ (8 * i))) rfl (by kernel_rfl) (by kernel_rfl) (by kernel_rfl) (by kernel_rfl) (fun _ _ _ h => h) (Or.inl ⟨by rfl, ?_⟩) hS ?_
          · intro w' hw'
            go_simp
          try simp only [Act.put, List.setIfInBounds_toArray, List.set_cons_zero, List.set_cons_succ]
          refine wpAnyY_pure (i := 9) (v := .int .u8 (bv (beAt n i))) rfl (by kernel_rfl) (by kernel_rfl) (by kernel_rfl) (by kernel_rfl) (fun _ _ _ h => h) (Or.inl ⟨by rfl, ?_⟩) hS ?_
          · intro w' hw'
            go_simp
          try simp only [Act.put, List.setIfInBounds_toArray, List.set_cons_zero, List.set_cons_succ]
          refine wpAnyY_one (i := 10) (by kernel_rfl) rfl (fun K' hK => ?_)
          go_simp
          refine hK _ _ (fun _ => (p1'.alloc _).cell 0 rfl) ?_
          clear hK K'
          try simp only [Act.put, List.setIfInBounds_toArray, List.set_cons_zero, List.set_cons_succ]
          refine wpAnyY_one (i := 11) (by kernel_rfl) rfl (fun K' hK => ?_)
          refine step_append_rd rfl (.tmp 29) (.tmp 35) 24 rfl b8_one B 5 i0 _ 1 Try.underlying24 hi0 hz0 hz1 hz2 rfl _ _ rfl (Hp2.out.drew.alloc _) (wr.heap.size + 1) _ 1 1 [beAt n i] rfl rfl (Rd.new b8 wr.drew 5 [beAt n i]) (by simp [maxLen]; omega) (by simp; omega) (by rw [show ∀ W : World, W.drew.heap.size = W.heap.size from fun _ => rfl, World.size_alloc]; omega) ?_
          intro v7 w7 hown7 hg7 hbb7
          have hst := pen_store (w := wr.drew) p1' Hp2.out p3 (.inl hg7.by_) hown7
          have hb7 : Below B wr w7 := hbb7 _ _ (Nat.le_refl _) (((Below.refl B wr).drew).alloc (by show B ≤ wr.heap.size; omega) _)
          obtain ⟨A7, cv7, rfl, -, -, -, -⟩ := hown7.shape' (n := ys.length + 1) (by simp)
          have f7 := hst.1.frozen 0
          have c7 := hst.1.cell 0 rfl
          refine hK _ _ (fun _ => c7) ?_
          clear hK K'
          try simp only [Act.put, List.setIfInBounds_toArray, List.set_cons_zero, List.set_cons_succ]
          refine wpAnyY_one (i := 12) (by kernel_rfl) rfl (fun K' hK => ?_)
          go_simp
          refine hK _ _ (fun _ => c7) ?_
          clear hK K'
          try simp only [Act.put, List.setIfInBounds_toArray, List.set_cons_zero, List.set_cons_succ]
          refine wpAnyY_one (i := 13) (by kernel_rfl) rfl (fun K' hK => ?_)
          go_simp
          refine hK _ _ (fun _ => c7) ?_
          clear hK K'
          try simp only [Act.put, List.setIfInBounds_toArray, List.set_cons_zero, List.set_cons_succ]
          refine wpAnyY_one (i := 14) (by kernel_rfl) rfl (fun K' hK => ?_)
          go_simp
          refine hK _ _ (fun h => absurd rfl h) (wpAnyY_done (by kernel_rfl) ?_ _)
          clear hK K' hw8 hi0' hi64 hnat hcv
          have HS7 := Lib.hid hst.2.1
          have HO7 := Lib.hid hst.2.2
          have HB7 := Lib.hid hb7
          clear hst hb7 hown7 hg7 hbb7
          go_wp2_with fail
          refine ⟨⟨k + 1, i, by omega, rfl, HS7.out.cast (by rw [Htk.out, Hys.out, List.append_assoc]) rfl, (Hb.out.trans HB7.out).setCell (p := ⟨g, 0, none⟩) p3 _, HOr.out.trans HO7.out⟩, by simp [intOf]⟩
theorem number_any {w : World} {B g : Nat} {xs : List (BitVec 8)} {bad : Bool} (hP : Pen w B g xs bad) (n : Int) (s : Nat) (most : Int) (hn1 : -9223372036854775808 ≤ n) (hn2 : n < 9223372036854775808) (hs : s ≤ 8) (hx : xs.length ≤ 1000000000) :
    Calls Try.prog 50 #[.pointer (some ⟨g, 0, none⟩), .int .i64 n, .int .i64 s, .int .i64 most] w fun e w' => e = .returned (.tuple #[]) ∧ Pen w' B g (xs ++ be n s) (bad || (decide (n < 0) || decide (most < n))) ∧ Below B w w' :=
  (numberO_any hP n s most hn1 hn2 hs hx).mono fun _ _ h => ⟨h.1, h.2.1, h.2.2.1⟩
end Go.Proofs.Ytloglpamnalmeaa

/- CONTRACTS: the pen of package wire: row, end, seat, group. -/
namespace Go.Proofs.Ytloglpamnalmeaa
open Go.RowKit
set_option linter.unusedVariables false
set_option linter.unusedSimpArgs false

/-- out of a range from 0 on -/
def outOf (n most : Int) : Bool := decide (n < 0) || decide (most < n)
theorem numberO_in {w : World} {B g : Nat} {xs : List (BitVec 8)} {bad : Bool} (hP : Pen w B g xs bad) (n : Int) (s : Nat) (si : Int) (hsi : si = (s : Int)) (most : Int) (hn1 : -9223372036854775808 ≤ n) (hn2 : n < 9223372036854775808) (hs : s ≤ 8) (hx : xs.length ≤ 1000000000) :
    Calls Try.prog 50 #[.pointer (some ⟨g, 0, none⟩), .int .i64 n, .int .i64 si, .int .i64 most] w fun e w' => e = .returned (.tuple #[]) ∧ Pen w' B g (xs ++ be n s) (bad || outOf n most) ∧ Below B w w' ∧ Oth w w' := by
  subst hsi
  exact numberO_any hP n s most hn1 hn2 hs hx
theorem number_in {w : World} {B g : Nat} {xs : List (BitVec 8)} {bad : Bool} (hP : Pen w B g xs bad) (n : Int) (s : Nat) (si : Int) (hsi : si = (s : Int)) (most : Int) (hn1 : -9223372036854775808 ≤ n) (hn2 : n < 9223372036854775808) (hs : s ≤ 8) (hx : xs.length ≤ 1000000000) :
    Calls Try.prog 50 #[.pointer (some ⟨g, 0, none⟩), .int .i64 n, .int .i64 si, .int .i64 most] w fun e w' => e = .returned (.tuple #[]) ∧ Pen w' B g (xs ++ be n s) (bad || outOf n most) ∧ Below B w w' :=
  (numberO_in hP n s si hsi most hn1 hn2 hs hx).mono fun _ _ h => ⟨h.1, h.2.1, h.2.2.1⟩

set_option maxRecDepth 100000 in
theorem seatO_any {w : World} {B g : Nat} {xs : List (BitVec 8)} {bad : Bool} (hP : Pen w B g xs bad) (n : Int) (hn1 : -9223372036854775808 ≤ n) (hn2 : n < 9223372036854775808) (hx : xs.length ≤ 1000000000) :
    Calls Try.prog 74 #[.pointer (some ⟨g, 0, none⟩), .int .i64 n] w fun e w' => e = .returned (.tuple #[]) ∧ Pen w' B g (xs ++ be n 1) (bad || outOf n 31) ∧ Below B w w' ∧ Oth w w' := by
  have HP := Lib.hid hP
  clear hP
  go_enter Try.func74, Try.ntmps74
  go_wp2_with fail
  refine (numberO_in HP.out n 1 1 rfl 31 hn1 hn2 (by omega) hx).mono ?_
  rintro e w1 ⟨rfl, hp1, hb1, ho1⟩
  have HO1 := Lib.hid ho1
  clear ho1
  go_wp2
  go_end0
  exact ⟨rfl, hp1, hb1, HO1.out⟩
theorem seat_any {w : World} {B g : Nat} {xs : List (BitVec 8)} {bad : Bool} (hP : Pen w B g xs bad) (n : Int) (hn1 : -9223372036854775808 ≤ n) (hn2 : n < 9223372036854775808) (hx : xs.length ≤ 1000000000) :
    Calls Try.prog 74 #[.pointer (some ⟨g, 0, none⟩), .int .i64 n] w fun e w' => e = .returned (.tuple #[]) ∧ Pen w' B g (xs ++ be n 1) (bad || outOf n 31) ∧ Below B w w' :=
  (seatO_any hP n hn1 hn2 hx).mono fun _ _ h => ⟨h.1, h.2.1, h.2.2.1⟩

/-- a row: its length, its bytes -/
def rowB (ys : List (BitVec 8)) : List (BitVec 8) := be (ys.length : Int) 2 ++ ys
set_option maxRecDepth 100000 in
set_option maxHeartbeats 1000000 in
theorem rowO_any {w : World} {B g : Nat} {xs : List (BitVec 8)} {bad : Bool} (hP : Pen w B g xs bad) {B' : Nat} {A : Option Addr} {n c : Nat} {ys : List (BitVec 8)} (hr : Rd b8 w B' A ys) (hB' : B' ≤ B) (hn : ys.length = n) (hx : xs.length ≤ 100000000) (hy : n ≤ 100000000) :
    Calls Try.prog 51 #[.pointer (some ⟨g, 0, none⟩), .slice A n c] w fun e w' => e = .returned (.tuple #[]) ∧ (∃ zs, Pen w' B g (xs ++ zs) (bad || outOf n 65535) ∧ ((bad || outOf n 65535) = false → zs = rowB ys) ∧ zs.length ≤ 2 + n) ∧ Below B w w' ∧ Oth w w' := by
  have HP := Lib.hid hP
  have HR := Lib.hid hr
  have HN := Lib.hid hn
  obtain ⟨b', hb'⟩ : ∃ b', b' = (bad || outOf n 65535) := ⟨_, rfl⟩
  have hnum := numberO_in hP (n : Int) 2 2 rfl 65535 (by omega) (by omega) (by omega) (by omega)
  rw [← hb'] at hnum ⊢
  have HNum := Lib.hid hnum
  have hsz := hP.size
  clear hP hr hn hb' hnum
  go_enter Try.func51, Try.ntmps51
  go_wp2_with fail
  refine HNum.out.mono ?_
  rintro e w1 ⟨rfl, hp1, hb1, ho1⟩
  have HO1 := Lib.hid ho1
  clear ho1
  have HP1 := Lib.hid hp1
  have HB1 := Lib.hid hb1
  obtain ⟨v, h1, h2⟩ := hp1.at_
  have c1 := h1.cell 1 rfl
  clear h1 h2 hp1 hb1
  cases b' with
  | true =>
    go_wp2_with fail
    go_end0
    exact ⟨rfl, ⟨be n 2, HP1.out, (fun h => (by cases h)), by rw [be_len]; omega⟩, HB1.out, HO1.out⟩
  | false =>
    go_wp2_with fail
    refine (bytesO_any HP1.out (HR.out.below (HB1.out.mono hB')) (by have := HB1.out.size; omega) HN.out (by rw [List.length_append, be_len]; omega) (by omega)).mono ?_
    rintro e w2 ⟨rfl, hp2, hb2, ho2⟩
    have HO2 := Lib.hid ho2
    clear ho2
    go_wp2
    go_end0
    refine ⟨rfl, ⟨rowB ys, hp2.cast (by unfold rowB; rw [HN.out, List.append_assoc]) rfl, (by first | exact fun _ => rfl | rfl), by unfold rowB; rw [List.length_append, be_len, HN.out]; omega⟩, HB1.out.trans hb2, HO1.out.trans HO2.out⟩
theorem row_any {w : World} {B g : Nat} {xs : List (BitVec 8)} {bad : Bool} (hP : Pen w B g xs bad) {B' : Nat} {A : Option Addr} {n c : Nat} {ys : List (BitVec 8)} (hr : Rd b8 w B' A ys) (hB' : B' ≤ B) (hn : ys.length = n) (hx : xs.length ≤ 100000000) (hy : n ≤ 100000000) :
    Calls Try.prog 51 #[.pointer (some ⟨g, 0, none⟩), .slice A n c] w fun e w' => e = .returned (.tuple #[]) ∧ (∃ zs, Pen w' B g (xs ++ zs) (bad || outOf n 65535) ∧ ((bad || outOf n 65535) = false → zs = rowB ys) ∧ zs.length ≤ 2 + n) ∧ Below B w w' :=
  (rowO_any hP hr hB' hn hx hy).mono fun _ _ h => ⟨h.1, h.2.1, h.2.2.1⟩

def endBad (bad : Bool) (xs : List (BitVec 8)) : Bool := bad || decide (65536 < xs.length)
set_option maxRecDepth 100000 in
theorem end_any {w : World} {B g : Nat} {xs : List (BitVec 8)} {bad : Bool} (hP : Pen w B g xs bad) :
    Calls Try.prog 52 #[.pointer (some ⟨g, 0, none⟩)] w fun e w' => (∃ v, e = .returned (.tuple #[v, errV (if endBad bad xs then 3 else 0)]) ∧ Own b8 w' B 5 v (if endBad bad xs then [] else xs)) ∧ w = w' := by
  obtain ⟨v, h1, h2⟩ := hP.at_
  obtain ⟨A, c, rfl, hr, -, -, -⟩ := h2.shape
  have H2 := Lib.hid h2
  have c0 := h1.cell 0 rfl
  have c1 := h1.cell 1 rfl
  clear hP h1 h2 hr
  cases bad with
  | true =>
    have e1 : endBad true xs = true := rfl
    rw [e1, if_pos rfl, if_pos rfl, errV_pos (by simp)]
    clear e1
    go_enter Try.func52, Try.ntmps52
    go_wp2
    go_ret2
    exact ⟨⟨_, rfl, Own.nil_ _ _ _ _⟩, rfl⟩
  | false =>
    by_cases hl : 65536 < xs.length
    · have e1 : endBad false xs = true := by simp [endBad, hl]
      have hl' : (65536 : Int) < (xs.length : Int) := by omega
      rw [e1, if_pos rfl, if_pos rfl, errV_pos (by simp)]
      clear e1 hl
      go_enter Try.func52, Try.ntmps52
      go_wp2
      go_ret2
      exact ⟨⟨_, rfl, Own.nil_ _ _ _ _⟩, rfl⟩
    · have e1 : endBad false xs = false := by simp [endBad, hl]
      have hl' : ((65536 : Int) < (xs.length : Int)) = False := by simp; omega
      rw [e1, if_neg (by simp), if_neg (by simp), errV_zero]
      clear e1 hl
      go_enter Try.func52, Try.ntmps52
      go_wp2
      go_ret2
      exact ⟨⟨_, rfl, H2.out⟩, rfl⟩

/-- a group, an epoch, a leaf's number -/
def groupB (sum : List (BitVec 8)) (epoch frm : Int) : List (BitVec 8) := sum ++ (be epoch 4 ++ be frm 1)
set_option maxRecDepth 100000 in
set_option maxHeartbeats 1000000 in
theorem groupO_any {w : World} {B g : Nat} {xs : List (BitVec 8)} {bad : Bool} (hP : Pen w B g xs bad) (sum : List (BitVec 8)) (epoch frm : Int) (hs : sum.length = 32) (e1 : -9223372036854775808 ≤ epoch) (e2 : epoch < 9223372036854775808) (f1 : -9223372036854775808 ≤ frm) (f2 : frm < 9223372036854775808) (hx : xs.length ≤ 100000000) :
    Calls Try.prog 49 #[.pointer (some ⟨g, 0, none⟩), arrV b8 sum, .int .i64 epoch, .int .i64 frm] w fun e w' => e = .returned (.tuple #[]) ∧ Pen w' B g (xs ++ groupB sum epoch frm) (bad || outOf epoch 4294967295 || outOf frm 31) ∧ Below B w w' ∧ Oth w w' := by
  have HP := Lib.hid (hP.alloc (.cells (sum.map b8).toArray 23))
  have HS := Lib.hid hs
  have HA := Lib.hid (Rd.new b8 w 23 sum)
  have HB := Lib.hid ((Below.refl B w).alloc hP.size (.cells (sum.map b8).toArray 23))
  have HO0 := Lib.hid ((Oth.refl w).alloc (.cells (sum.map b8).toArray 23))
  clear hP hs
  rw [arrV_mk]
  go_enter Try.func49, Try.ntmps49
  go_wp2_with fail
  refine (bytesO_any HP.out HA.out (by simp) HS.out (by omega) (by omega)).mono ?_
  rintro e w1 ⟨rfl, hp1, hb1, ho1⟩
  have HO1 := Lib.hid ho1
  clear ho1
  have HP1 := Lib.hid hp1
  have HB1 := Lib.hid hb1
  clear hp1 hb1
  go_wp2_with fail
  refine (numberO_in HP1.out epoch 4 4 rfl 4294967295 e1 e2 (by omega) (by rw [List.length_append, HS.out]; omega)).mono ?_
  rintro e w2 ⟨rfl, hp2, hb2, ho2⟩
  have HO2 := Lib.hid ho2
  clear ho2
  have HP2 := Lib.hid hp2
  have HB2 := Lib.hid hb2
  clear hp2 hb2
  go_wp2_with fail
  refine (seatO_any HP2.out frm f1 f2 (by rw [List.length_append, List.length_append, be_len, HS.out]; omega)).mono ?_
  rintro e w3 ⟨rfl, hp3, hb3, ho3⟩
  have HO3 := Lib.hid ho3
  clear ho3
  go_wp2
  go_end0
  exact ⟨rfl, hp3.cast (by unfold groupB; simp only [List.append_assoc]) rfl, ((HB.out.trans HB1.out).trans HB2.out).trans hb3, ((HO0.out.trans HO1.out).trans HO2.out).trans HO3.out⟩
theorem group_any {w : World} {B g : Nat} {xs : List (BitVec 8)} {bad : Bool} (hP : Pen w B g xs bad) (sum : List (BitVec 8)) (epoch frm : Int) (hs : sum.length = 32) (e1 : -9223372036854775808 ≤ epoch) (e2 : epoch < 9223372036854775808) (f1 : -9223372036854775808 ≤ frm) (f2 : frm < 9223372036854775808) (hx : xs.length ≤ 100000000) :
    Calls Try.prog 49 #[.pointer (some ⟨g, 0, none⟩), arrV b8 sum, .int .i64 epoch, .int .i64 frm] w fun e w' => e = .returned (.tuple #[]) ∧ Pen w' B g (xs ++ groupB sum epoch frm) (bad || outOf epoch 4294967295 || outOf frm 31) ∧ Below B w w' :=
  (groupO_any hP sum epoch frm hs e1 e2 f1 f2 hx).mono fun _ _ h => ⟨h.1, h.2.1, h.2.2.1⟩
end Go.Proofs.Ytloglpamnalmeaa

/- CONTRACTS: burrowref09: num, in, headGood, row, head, fits. -/
namespace Go.Proofs.Ytloglpamnalmeaa
open Go.RowKit
set_option linter.unusedVariables false
set_option linter.unusedSimpArgs false

theorem in9_any (n most : Int) (w : World) : Calls Try.prog 54 #[.int .i64 n, .int .i64 most] w fun e w' => e = .returned (.bool (!outOf n most)) ∧ w = w' := by
  by_cases h : n < 0
  · have e : (!outOf n most) = false := by simp [outOf, h]
    have h0 : (0 ≤ n) = False := by simp; omega
    rw [e]
    clear e h
    go_enter Try.func54, Try.ntmps54
    go_wp2
    go_ret
    exact ⟨rfl, rfl⟩
  · have h0 : 0 ≤ n := by omega
    by_cases h2 : most < n
    · have e : (!outOf n most) = false := by simp [outOf, h2]
      have h1 : (n ≤ most) = False := by simp; omega
      rw [e]
      clear e h h2
      go_enter Try.func54, Try.ntmps54
      go_wp2
      go_ret
      exact ⟨rfl, rfl⟩
    · have e : (!outOf n most) = true := by simp [outOf, h, h2]
      have h1 : n ≤ most := by omega
      rw [e]
      clear e h h2
      go_enter Try.func54, Try.ntmps54
      go_wp2
      go_ret
      exact ⟨rfl, rfl⟩

theorem beAt_nat (N i : Nat) : IntKind.u8.wrap (((N / 256 ^ i : Nat) : Int) % 256) = bv (beAt (N : Int) i) := by
  rw [← beAt_conv, show ((2 : Int) ^ (8 * i)) = ((256 ^ i : Nat) : Int) by rw [intpow, show (2 : Nat) ^ (8 * i) = 256 ^ i by rw [Nat.pow_mul]], wrap_u8v, wrap_u8v]
  rw [show ((N : Int) / ((256 ^ i : Nat) : Int)) = ((N / 256 ^ i : Nat) : Int) from (Int.natCast_ediv N (256 ^ i)).symm]
  omega
set_option maxRecDepth 100000 in
set_option maxHeartbeats 1000000 in
theorem num9_any (N s : Nat) (si : Int) (hsi : si = (s : Int)) (hN : N < 9223372036854775808) (hs : s ≤ 8) (w : World) :
    Calls Try.prog 57 #[.int .i64 (N : Int), .int .i64 si] w fun e w' => ∃ v, e = .returned v ∧ Own b8 w' w.heap.size 5 v (be (N : Int) s) ∧ Below w.heap.size w w' := by
  subst hsi
  obtain ⟨i0, hi0, hz0, hz1, hz2⟩ := info_parts infoU8
  have HN := Lib.hid hN
  clear hN
  go_enter Try.func57, Try.ntmps57
  go_wp2
  go_loopw [0, 5, 6] (fun nv v iv wr => ∃ (k : Nat), k ≤ s ∧ iv = .int .i64 (k : Int) ∧ nv = .int .i64 ((N / 256 ^ k : Nat) : Int) ∧ Own b8 wr w.heap.size 5 v (be (N : Int) k) ∧ Below w.heap.size w wr) (fun _ _ iv _ => (s - (intOf iv).toNat))
  case atStart => exact ⟨0, by omega, rfl, by simp, Own.nil_ _ _ _ _, Below.refl _ _⟩
  case round =>
    obtain ⟨k, hk, rfl, rfl, ho, hb⟩ := hrel
    by_cases hlt : k < s
    · have hlt' : (k : Int) < (s : Int) := by omega
      obtain ⟨m, hm⟩ : ∃ m, m = N / 256 ^ k := ⟨_, rfl⟩
      have hconv := beAt_nat N k
      have hm2 : m / 256 = N / 256 ^ (k + 1) := by rw [hm, Nat.div_div_eq_div_mul, Nat.pow_succ]
      have hmN : m < 9223372036854775808 := Nat.lt_of_le_of_lt (by rw [hm]; exact Nat.div_le_self _ _) HN.out
      rw [← hm] at hconv ⊢
      have Hm2 := Lib.hid hm2
      obtain ⟨A, c, rfl, hr, -, -, -⟩ := ho.shape' (be_len _ _)
      have HR := Lib.hid hr
      have HB := Lib.hid hb
      have hbz := hb.size
      have hk8 : k ≤ 8 := by omega
      clear hm hm2 ho hr hb
      go_wp2_with (at_builtin; refine wpList_append_rd rfl (.tmp 15) (.tmp 16) 24 rfl b8_one w.heap.size 5 i0 _ 1 Try.underlying24 hi0 hz0 hz1 hz2 rfl _ [beAt (N : Int) k] rfl (Own.lit b8 wr w.heap.size 5 [beAt (N : Int) k] hbz (by simp [maxLen])) wr.heap.size A k c (be (N : Int) k) rfl (be_len _ _).symm (HR.out.alloc (Nat.le_refl _) _) (by simp [maxLen, be_len]; omega) (by simp [be_len]; omega) (by simp; omega) ?_; intro v7 w7 hown7 hg7 hbb7; have HO7 := Lib.hid hown7; have HB7 := Lib.hid (hbb7 _ _ (Nat.le_refl _) (HB.out.alloc hbz _)); clear hown7 hg7 hbb7)
      go_roundw
      case rel =>
        refine ⟨k + 1, by omega, by go_num, ?_, HO7.out.cast rfl, HB7.out⟩
        rw [← Hm2.out]; rfl
      case measure => simp [intOf]; omega
    · obtain rfl : k = s := by omega
      go_wp2_with fail
      go_ret
      exact ⟨_, rfl, ho, hb⟩

set_option maxRecDepth 100000 in
theorem headGood_any (epoch frm : Int) (w : World) : Calls Try.prog 53 #[.int .i64 epoch, .int .i64 frm] w fun e w' => e = .returned (.bool (!(outOf epoch 4294967295 || outOf frm 31))) ∧ w = w' := by
  obtain ⟨x, hx⟩ : ∃ x, x = outOf epoch 4294967295 := ⟨_, rfl⟩
  obtain ⟨y, hy⟩ : ∃ y, y = outOf frm 31 := ⟨_, rfl⟩
  have h1 := fun w => in9_any epoch 4294967295 w
  have h2 := fun w => in9_any frm 31 w
  simp only [← hx, ← hy] at h1 h2 ⊢
  have H1 := Lib.hid h1
  have H2 := Lib.hid h2
  clear h1 h2 hx hy
  go_enter Try.func53, Try.ntmps53
  go_wp2_with fail
  refine (H1.out _).mono ?_
  rintro e w' ⟨rfl, rfl⟩
  cases x with
  | true =>
    go_wp2_with fail
    go_ret
    exact ⟨rfl, rfl⟩
  | false =>
    go_wp2_with fail
    refine (H2.out _).mono ?_
    rintro e w' ⟨rfl, rfl⟩
    cases y with
    | true =>
      go_wp2_with fail
      go_ret
      exact ⟨rfl, rfl⟩
    | false =>
      go_wp2_with fail
      go_ret
      exact ⟨rfl, rfl⟩
theorem fits_any (A : Option Addr) (n c : Nat) (w : World) : Calls Try.prog 55 #[.slice A n c] w fun e w' => e = .returned (.tuple #[if 65536 < n then .slice none 0 0 else .slice A n c, .bool (!decide (65536 < n))]) ∧ w = w' := by
  by_cases h : 65536 < n
  · have h' : (65536 : Int) < (n : Int) := by omega
    have e : (!decide (65536 < n)) = false := by simp [h]
    rw [if_pos h, e]
    clear e h
    go_enter Try.func55, Try.ntmps55
    go_wp2
    go_ret2
    exact ⟨rfl, rfl⟩
  · have h' : ((65536 : Int) < (n : Int)) = False := by simp; omega
    have e : (!decide (65536 < n)) = true := by simp [h]
    rw [if_neg h, e]
    clear e h
    go_enter Try.func55, Try.ntmps55
    go_wp2
    go_ret2
    exact ⟨rfl, rfl⟩

set_option maxRecDepth 100000 in
set_option maxHeartbeats 1000000 in
theorem row9_any {B' : Nat} {A : Option Addr} {n c : Nat} {ys : List (BitVec 8)} {w : World} (hr : Rd b8 w B' A ys) (hB' : B' ≤ w.heap.size) (hn : ys.length = n) (hy : n ≤ 100000000) :
    Calls Try.prog 58 #[.slice A n c] w fun e w' => ∃ v, e = .returned v ∧ Own b8 w' w.heap.size 5 v (rowB ys) ∧ Below w.heap.size w w' := by
  obtain ⟨i0, hi0, hz0, hz1, hz2⟩ := info_parts infoU8
  have HR := Lib.hid hr
  have HN := Lib.hid hn
  clear hr hn
  go_enter Try.func58, Try.ntmps58
  go_wp2_with fail
  refine (num9_any n 2 2 rfl (by omega) (by omega) _).mono ?_
  rintro e w1 ⟨v1, rfl, ho1, hb1⟩
  have HO1 := Lib.hid ho1
  have HB1 := Lib.hid hb1
  clear ho1 hb1
  go_wp2_with (at_builtin; refine wpList_append_rd rfl (.tmp 5) (.tmp 6) 24 rfl b8_one w.heap.size 5 i0 _ 1 Try.underlying24 hi0 hz0 hz1 hz2 rfl _ _ rfl HO1.out B' A n c ys rfl HN.out.symm (HR.out.below (HB1.out.mono hB')) (by have := HN.out; simp [maxLen, be_len]; omega) (by have := HN.out; simp [be_len]; omega) HB1.out.size ?_; intro v7 w7 hown7 hg7 hbb7; have HO7 := Lib.hid hown7; have HB7 := Lib.hid (hbb7 _ _ (Nat.le_refl _) HB1.out); clear hown7 hg7 hbb7)
  go_ret
  exact ⟨_, rfl, HO7.out.cast (by unfold rowB; rw [HN.out]), HB7.out⟩

theorem beAt0 (n : Int) : IntKind.u8.wrap n = bv (beAt n 0) := by rw [← beAt_conv]; simp
set_option maxRecDepth 100000 in
set_option maxHeartbeats 1000000 in
theorem head9_any (sum : List (BitVec 8)) (E F : Nat) (hs : sum.length = 32) (hE : E < 9223372036854775808) (hF : F < 9223372036854775808) (w : World) :
    Calls Try.prog 56 #[arrV b8 sum, .int .i64 (E : Int), .int .i64 (F : Int)] w fun e w' => ∃ v, e = .returned v ∧ Own b8 w' w.heap.size 5 v (groupB sum E F) ∧ Below w.heap.size w w' := by
  obtain ⟨i0, hi0, hz0, hz1, hz2⟩ := info_parts infoU8
  have HA := Lib.hid (Rd.new b8 w 23 sum)
  have HB := Lib.hid ((Below.refl w.heap.size w).alloc (Nat.le_refl _) (.cells (sum.map b8).toArray 23))
  have HS := Lib.hid hs
  have hf := beAt0 (F : Int)
  have hlit := Own.lit b8 (w.alloc (.cells (sum.map b8).toArray 23)) w.heap.size 5 [] (by simp) (by simp)
  rw [World.size_alloc] at hlit
  have HLit := Lib.hid hlit
  clear hs hlit
  rw [arrV_mk]
  go_enter Try.func56, Try.ntmps56
  go_wp2_with (at_builtin; refine wpList_append_rd rfl (.tmp 7) (.tmp 8) 24 rfl b8_one w.heap.size 5 i0 _ 1 Try.underlying24 hi0 hz0 hz1 hz2 rfl _ [] rfl HLit.out (w.heap.size + 1) _ 32 32 sum rfl HS.out.symm (HA.out.alloc (by simp) _) (by simp [maxLen]; have := HS.out; omega) (by simp; have := HS.out; omega) (by simp; omega) ?_; intro v7 w7 hown7 hg7 hbb7; have HO7 := Lib.hid hown7; have HB7 := Lib.hid (hbb7 _ _ (Nat.le_refl _) (HB.out.alloc (by simp) _)); clear hown7 hg7 hbb7)
  refine (num9_any E 4 4 rfl hE (by omega) _).mono ?_
  rintro e w1 ⟨v1, rfl, ho1, hb1⟩
  obtain ⟨A1, c1, rfl, hr1, -, -, -⟩ := ho1.shape' (be_len _ _)
  have HR1 := Lib.hid hr1
  have HO17 := Lib.hid (HO7.out.below hb1 (Nat.le_refl _))
  have HB1 := Lib.hid (HB7.out.trans (hb1.mono HB7.out.size))
  clear ho1 hb1 hr1
  go_wp2_with (first
    | (at_builtin; refine wpList_append_rd rfl (.tmp 9) (.tmp 11) 24 rfl b8_one w.heap.size 5 i0 _ 1 Try.underlying24 hi0 hz0 hz1 hz2 rfl _ _ rfl HO17.out w1.heap.size A1 4 c1 (be E 4) rfl (be_len _ _).symm HR1.out (by have := HS.out; simp [maxLen, be_len]; omega) (by have := HS.out; simp [be_len]; omega) HB1.out.size ?_; intro v8 w8 hown8 hg8 hbb8; have HO8 := Lib.hid hown8; have HB8 := Lib.hid (hbb8 _ _ (Nat.le_refl _) HB1.out); clear hown8 hg8 hbb8)
    | (at_builtin; refine wpList_append_rd rfl (.tmp 12) (.tmp 15) 24 rfl b8_one w.heap.size 5 i0 _ 1 Try.underlying24 hi0 hz0 hz1 hz2 rfl _ _ rfl (HO8.out.alloc _) (w8.heap.size + 1) _ 1 1 [beAt F 0] rfl rfl (Rd.new b8 w8 5 [beAt F 0]) (by have := HS.out; simp [maxLen, be_len]; omega) (by have := HS.out; simp [be_len]; omega) (by have := HB8.out.size; simp; omega) ?_; intro v9 w9 hown9 hg9 hbb9; have HO9 := Lib.hid hown9; have HB9 := Lib.hid (hbb9 _ _ (Nat.le_refl _) (HB8.out.alloc HB8.out.size _)); clear hown9 hg9 hbb9))
  go_ret
  refine ⟨_, rfl, HO9.out.cast ?_, HB9.out⟩
  unfold groupB
  simp [be]
end Go.Proofs.Ytloglpamnalmeaa
