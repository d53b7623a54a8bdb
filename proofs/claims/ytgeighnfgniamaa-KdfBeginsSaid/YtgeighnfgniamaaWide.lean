/- CONTRACT: a long digest's state behind a piece. -/
import Derived.Test.YtgeighnfgniamaaShaC
namespace Go.Proofs.Ytgeighnfgniamaa
open Go.RowKit
set_option linter.unusedVariables false
set_option linter.unusedSimpArgs false

theorem wrot1 (x : BitVec 64) (w : World) : Calls Try.prog 57 #[.int .u64 (bv x), .int .i64 (-1)] w fun e w' => e = .returned (.int .u64 (bv (rotl x 63))) ∧ w = w' := rotl64_any x (-1) w
theorem wrot8 (x : BitVec 64) (w : World) : Calls Try.prog 57 #[.int .u64 (bv x), .int .i64 (-8)] w fun e w' => e = .returned (.int .u64 (bv (rotl x 56))) ∧ w = w' := rotl64_any x (-8) w
theorem wrot19 (x : BitVec 64) (w : World) : Calls Try.prog 57 #[.int .u64 (bv x), .int .i64 (-19)] w fun e w' => e = .returned (.int .u64 (bv (rotl x 45))) ∧ w = w' := rotl64_any x (-19) w
theorem wrot61 (x : BitVec 64) (w : World) : Calls Try.prog 57 #[.int .u64 (bv x), .int .i64 (-61)] w fun e w' => e = .returned (.int .u64 (bv (rotl x 3))) ∧ w = w' := rotl64_any x (-61) w
theorem piece64 (s : S8 64) (p : List (BitVec 8)) : sha64.piece s p = s.add (sha64.rounds (sha64.sched p 80) s 80) := by
  unfold Sha.piece
  rw [show sha64.K = K64 from rfl, K64_len]
theorem wordUp_snoc (l : List (BitVec 8)) (b : BitVec 8) (x : BitVec 64) : wordUp (l ++ [b]) x = wordUp l x <<< 8 ||| b.setWidth 64 := by
  induction l generalizing x with
  | nil => rfl
  | cons a l ih => rw [List.cons_append, wordUp, ih]; rfl
def wordTo (p : List (BitVec 8)) (i j : Nat) : BitVec 64 := wordUp ((p.drop (8 * i)).take j) 0#64
theorem wordTo_succ (p : List (BitVec 8)) (i j : Nat) (h : 8 * i + j < p.length) : wordTo p i (j + 1) = wordTo p i j <<< 8 ||| (p.getD (8 * i + j) 0#8).setWidth 64 := by
  unfold wordTo
  rw [List.take_succ_eq_append_getElem (by rw [List.length_drop]; omega), wordUp_snoc, List.getElem_drop]
  simp [List.getD, List.getElem?_eq_getElem h]
theorem schedTo_gap (p : List (BitVec 8)) (i : Nat) (hi : i < 80) : (schedTo sha64 p 80 i).set i (wordTo p i 0) = schedTo sha64 p 80 i := by
  have e : 80 - i = (80 - (i + 1)) + 1 := by omega
  unfold schedTo
  rw [e, List.replicate_succ, List.set_append_right _ _ (by rw [Sha.sched_len]; exact Nat.le_refl _), Sha.sched_len, Nat.sub_self, List.set_cons_zero]
  rfl
theorem size8w : (Try.prog.info? 70).map (·.size) = some 8 := by kernel_rfl

/-- the blocks of sha.wide: the state, the result, the words -/
structure Wd (w wr : World) (s x : List (BitVec 64)) : Prop where
  s : Arr w64 wr w.heap.size 70 s
  o : Arr w64 wr (w.heap.size + 1) 70 (List.replicate 8 0#64)
  x : Arr w64 wr (w.heap.size + 1 + 1) 72 x
  b : Below w.heap.size w wr
section
variable {w wr wr' : World} {s x : List (BitVec 64)}
theorem Wd.drewN (h : Wd w wr s x) (k : Nat) : Wd w (wr.drewN k) s x := ⟨h.s, h.o, h.x, below_drewN h.b k⟩
theorem Wd.drew (h : Wd w wr s x) : Wd w wr.drew s x := ⟨h.s, h.o, h.x, h.b.drew⟩
theorem Wd.setX (h : Wd w wr s x) (k : Nat) (u : BitVec 64) : Wd w (wr.setCell ⟨w.heap.size + 1 + 1, k, none⟩ (.int .u64 (bv u))) s (x.set k u) :=
  ⟨h.s.far (by simp; omega) _, h.o.far (by simp) _, h.x.set_ k u, h.b.setCell (p := ⟨w.heap.size + 1 + 1, k, none⟩) (by simp; omega) _⟩
theorem Wd.setS (h : Wd w wr s x) (k : Nat) (u : BitVec 64) : Wd w (wr.setCell ⟨w.heap.size, k, none⟩ (.int .u64 (bv u))) (s.set k u) x :=
  ⟨h.s.set_ k u, h.o.far (by simp) _, h.x.far (by simp; omega) _, h.b.setCell (p := ⟨w.heap.size, k, none⟩) (Nat.le_refl _) _⟩
theorem Wd.castX {y : List (BitVec 64)} (h : Wd w wr s x) (e : x = y) : Wd w wr s y := e ▸ h
theorem Wd.castS {y : List (BitVec 64)} (h : Wd w wr s x) (e : s = y) : Wd w wr y x := e ▸ h
theorem Wd.lt (h : Wd w wr s x) : w.heap.size + 1 + 1 < wr.heap.size := h.x.lt
theorem Wd.grown {g : Nat} (h : Wd w wr s x) (hg : wr.grownBy wr' (some g)) (hh : w.heap.size + 1 + 1 < g) : Wd w wr' s x :=
  ⟨h.s.grown hg (by simp; omega), h.o.grown hg (by simp; omega), h.x.grown hg (by simp; omega), h.b.grown hg h.b.size (fun k e => by cases e; omega)⟩
theorem Wd.alloc (h : Wd w wr s x) (o : Obj) : Wd w (wr.alloc o) s x := ⟨h.s.alloc o, h.o.alloc o, h.x.alloc o, h.b.alloc h.b.size o⟩
end
set_option maxRecDepth 100000 in
set_option maxHeartbeats 8000000 in
theorem wide_any (gk b off c : Nat) (s : S8 64) (p : List (BitVec 8)) (w : World) (hk : Arr w64 w gk 72 K64) (hp : p.length = 128) (hb : b < w.heap.size) (hcell : ∀ j, j < 128 → w.cell? ⟨b, off + j, none⟩ = some (b8 (p.getD j 0#8))) :
    Calls Try.prog 46 #[.agg (s.list.map w64).toArray, .slice (some ⟨b, off, none⟩) 128 c, .pointer (some ⟨gk, 0, none⟩)] w fun e w' => e = .returned (.agg ((sha64.piece s p).list.map w64).toArray) ∧ Below w.heap.size w w' := by
  have hz := zero80
  have HK := Lib.hid hk
  have HC := Lib.hid hcell
  have HP := Lib.hid hp
  have hgk := hk.lt
  clear hk hcell hp
  go_enter Try.func46, Try.ntmps46
  go_wp2_with fail
  have hW0 : Wd w (((w.alloc (.cells (s.list.map w64).toArray 70)).alloc (.cells ((List.replicate 8 0#64).map w64).toArray 70)).alloc (.cells noughts80 72)) s.list (schedTo sha64 p 80 0) :=
    ⟨((Arr.new w64 w _ _).alloc _).alloc _, (Arr.at_size w64 _ _ (by simp)).alloc _, Arr.at_size w64 _ (List.replicate 80 0#64) (by simp), by (repeat' (first | assumption | exact Below.refl _ _ | refine Below.drew ?_ | refine Below.alloc ?_ ?_ _ | omega | (simp; done) | (simp; omega)))⟩
  have HW0 := Lib.hid hW0
  clear hW0
  go_loopw [20] (fun i wr => ∃ k : Nat, k ≤ 16 ∧ i = .int .i64 k ∧ Wd w wr s.list (schedTo sha64 p 80 k)) (fun i _ => 16 - (intOf i).toNat)
  case atStart => exact ⟨0, by omega, rfl, HW0.out⟩
  case round =>
    clear HW0
    obtain ⟨k, hk, rfl, hW⟩ := hrel
    have HW := Lib.hid hW
    clear hW
    by_cases hlt : k < 16
    · have hdec : decide ((k : Int) < 16) = true := by simp; omega
      go_wp2_with fail
      clear hdec
      have HW1 := Lib.hid (HW.out.castX (schedTo_gap p k (by omega)).symm)
      clear HW
      go_loopw [23] (fun i wr => ∃ j : Nat, j ≤ 8 ∧ i = .int .i64 j ∧ Wd w wr s.list ((schedTo sha64 p 80 k).set k (wordTo p k j))) (fun i _ => 8 - (intOf i).toNat)
      case atStart => exact ⟨0, by omega, rfl, HW1.out⟩
      case round =>
        clear HW1
        obtain ⟨j, hj, rfl, hW⟩ := hrel
        have HW := Lib.hid hW
        clear hW
        by_cases hlt2 : j < 8
        · obtain ⟨q, hq⟩ : ∃ q, q = 8 * k + j := ⟨_, rfl⟩
          have cp : wr.cell? ⟨b, off + q, none⟩ = some (b8 (p.getD q 0#8)) := (HW.out.b.cell (p := ⟨b, off + q, none⟩) hb).trans (HC.out q (by omega))
          have cx := HW.out.x.at_ (k := k) (u := wordTo p k j) (by rw [List.getElem?_set_self (by rw [schedTo_len sha64 p 80 k (by omega)]; omega)])
          have fx := HW.out.x.frozen k
          have hs := wordTo_succ p k j (by rw [HP.out]; omega)
          rw [← hq] at hs
          generalize p.getD q 0#8 = x0 at cp hs
          generalize wordTo p k j = y0 at cx hs HW
          simp only [b8, w64] at cp cx
          have e0 : IntKind.i64.wrap (8 * (k : Int)) = 8 * (k : Int) := by rw [IntWalk.i64_in _ (by omega)]
          have e1 : IntKind.i64.wrap (8 * (k : Int) + (j : Int)) = (q : Int) := by rw [IntWalk.i64_in _ (by omega)]; omega
          have l0 : (q : Int) < 128 := by omega
          have lk : (k : Int) < 80 := by omega
          have Hs := Lib.hid hs
          clear hs hq
          go_wp2_with fail
          go_still_tail 15, (by kernel_rfl)
          clear e0 e1 cp
          go_wp2_with fail
          go_roundw
          case rel =>
            refine ⟨j + 1, by omega, by go_num, ?_⟩
            rw [Hs.out]
            exact (HW.out.drew.setX k _).castX (List.set_set ..)
          case measure => simp [intOf]; omega
        · obtain rfl : j = 8 := by omega
          rw [show (((8 : Nat)) : Int) = 8 from rfl]
          go_wp2_with fail
          go_roundw
          case rel =>
            refine ⟨k + 1, by omega, by go_num, HW.out.castX ?_⟩
            rw [show wordTo p k 8 = sha64.word p k from rfl, ← next_word sha64 p k hlt]
            exact schedTo_set _ _ _ _ (by omega)
          case measure => simp [intOf]; omega
    · obtain rfl : k = 16 := by omega
      rw [show (((16 : Nat)) : Int) = 16 from rfl]
      clear hlt hk
      go_wp2_with fail
      go_loopw [10] (fun i wr => ∃ k : Nat, 16 ≤ k ∧ k ≤ 80 ∧ i = .int .i64 k ∧ Wd w wr s.list (schedTo sha64 p 80 k)) (fun i _ => 80 - (intOf i).toNat)
      case atStart => exact ⟨16, by omega, by omega, rfl, HW.out⟩
      case round =>
        clear HW
        obtain ⟨k, hk16, hk, rfl, hW⟩ := hrel
        have HX := Lib.hid hW
        clear hW
        by_cases hlt : k < 80
        · obtain ⟨k2, hk2⟩ : ∃ m, k = m + 2 := ⟨k - 2, by omega⟩
          obtain ⟨k7, hk7⟩ : ∃ m, k = m + 7 := ⟨k - 7, by omega⟩
          obtain ⟨k15, hk15⟩ : ∃ m, k = m + 15 := ⟨k - 15, by omega⟩
          obtain ⟨k16, hk16'⟩ : ∃ m, k = m + 16 := ⟨k - 16, by omega⟩
          have hl := schedTo_len sha64 p 80 k hk
          have c2 := HX.out.x.cellD (k := k2) (by omega) 0#64
          have c7 := HX.out.x.cellD (k := k7) (by omega) 0#64
          have c15 := HX.out.x.cellD (k := k15) (by omega) 0#64
          have c16 := HX.out.x.cellD (k := k16) (by omega) 0#64
          have hw := next_mix sha64 p k k2 k7 k15 k16 hk16 hk2 hk7 hk15 hk16'
          rw [schedTo_at _ _ _ _ _ (by omega)] at c2 c7 c15 c16
          generalize (sha64.sched p k).getD k2 0#64 = x2 at c2 hw
          generalize (sha64.sched p k).getD k7 0#64 = x7 at c7 hw
          generalize (sha64.sched p k).getD k15 0#64 = x15 at c15 hw
          generalize (sha64.sched p k).getD k16 0#64 = x16 at c16 hw
          simp only [w64] at c2 c7 c15 c16
          have e2 : IntKind.i64.wrap ((k : Int) - 2) = (k2 : Int) := by rw [IntWalk.i64_in _ (by omega)]; omega
          have e7 : IntKind.i64.wrap ((k : Int) - 7) = (k7 : Int) := by rw [IntWalk.i64_in _ (by omega)]; omega
          have e15 : IntKind.i64.wrap ((k : Int) - 15) = (k15 : Int) := by rw [IntWalk.i64_in _ (by omega)]; omega
          have e16 : IntKind.i64.wrap ((k : Int) - 16) = (k16 : Int) := by rw [IntWalk.i64_in _ (by omega)]; omega
          have l2 : (k2 : Int) < 80 := by omega
          have l7 : (k7 : Int) < 80 := by omega
          have l15 : (k15 : Int) < 80 := by omega
          have l16 : (k16 : Int) < 80 := by omega
          have lk : (k : Int) < 80 := by omega
          have Hw := Lib.hid hw
          clear hw hk2 hk7 hk15 hk16' hl
          go_wp2_with fail
          go_quiet (fail)
          have HX2 := Lib.hid (HX.out.drewN nq)
          have D7 := Lib.hid (show (wr.drewN nq).cell? ⟨w.heap.size + 1 + 1, k7, none⟩ = some (.int .u64 (bv x7)) from c7)
          have D16 := Lib.hid (show (wr.drewN nq).cell? ⟨w.heap.size + 1 + 1, k16, none⟩ = some (.int .u64 (bv x16)) from c16)
          clear HX c2 c7 c15 c16
          generalize wr.drewN nq = wv at HX2 D7 D16 ⊢
          have c7 := D7.out
          have c16 := D16.out
          have cx := HX2.out.x.cellD (k := k) (by rw [schedTo_len sha64 p 80 k hk]; omega) 0#64
          have fx := HX2.out.x.frozen k
          clear D7 D16
          go_wp2_with (first
            | ((with_reducible refine (wrot1 _ _).mono ?_); rintro e w' ⟨rfl, rfl⟩)
            | ((with_reducible refine (wrot8 _ _).mono ?_); rintro e w' ⟨rfl, rfl⟩)
            | ((with_reducible refine (wrot19 _ _).mono ?_); rintro e w' ⟨rfl, rfl⟩)
            | ((with_reducible refine (wrot61 _ _).mono ?_); rintro e w' ⟨rfl, rfl⟩))
          go_still_tail 15, (by kernel_rfl)
          clear e2 e7 e15 e16 c7 c16
          go_wp2_with fail
          go_roundw
          case rel =>
            refine ⟨k + 1, by omega, by omega, by go_num, ?_⟩
            have h2 := HX2.out.drew.setX k (sha64.next p (sha64.sched p k))
            rw [schedTo_set _ _ _ _ (by omega), Hw.out] at h2
            exact h2
          case measure => simp [intOf]; omega
        · obtain rfl : k = 80 := by omega
          rw [show (((80 : Nat)) : Int) = 80 from rfl]
          obtain ⟨X, hX⟩ : ∃ X, X = sha64.sched p 80 := ⟨_, rfl⟩
          have hXl : X.length = 80 := by rw [hX, Sha.sched_len]
          have HX2 := Lib.hid (HX.out.castX (show schedTo sha64 p 80 80 = X by rw [schedTo_all, hX]))
          have HXe := Lib.hid hX
          have HXl := Lib.hid hXl
          clear hX hXl HX hlt hk hk16
          have hwl := HX2.out.lt
          obtain ⟨gs, hgsz⟩ : ∃ gs, gs = wr.heap.size := ⟨_, rfl⟩
          have hgs : w.heap.size + 1 + 1 < gs := by omega
          have HS0 := Lib.hid (show Arr w64 (wr.alloc (.cells ((List.replicate 8 0#64).map w64).toArray 70)) gs 70 (List.replicate 8 0#64) from hgsz ▸ Arr.new w64 wr _ _)
          have HGz := Lib.hid hgsz
          clear hgsz
          go_wp2_with (first
            | refine wpList_load_arr rfl 70 (.tmp 3) rfl w.heap.size rfl _ s.list HX2.out.s _ Try.underlying70 rfl (by rw [S8.list_len]; exact size8w) ?_
            | (rw [← HGz.out]; refine wpList_store_arr rfl 70 (.tmp 15) (.tmp 86) rfl gs rfl s.list rfl _ _ HS0.out rfl size8w w64_one ?_; intro w5 hx5 hg5))
          have HS5 := Lib.hid hx5
          have HX5 := Lib.hid ((HX2.out.alloc (.cells ((List.replicate 8 0#64).map w64).toArray 70)).grown hg5 hgs)
          clear hx5 hg5 HX2 HS0
          go_loopw [87] (fun i wr => ∃ k : Nat, k ≤ 80 ∧ i = .int .i64 k ∧ Arr w64 wr gs 70 (sha64.rounds X s k).list ∧ Wd w wr s.list X) (fun i _ => 80 - (intOf i).toNat)
          case atStart => exact ⟨0, by omega, rfl, HS5.out, HX5.out⟩
          case round =>
            clear HS5 HX5
            obtain ⟨k, hk, rfl, hS, hX⟩ := hrel
            have HSr := Lib.hid hS
            have HX := Lib.hid hX
            clear hS hX
            by_cases hlt : k < 80
            · have hck := HK.out.below HX.out.b hgk
              have cw := HX.out.x.cellD (k := k) (by rw [HXl.out]; exact hlt) 0#64
              have ck := hck.cellD (k := k) (by rw [K64_len]; exact hlt) 0#64
              have hstep : sha64.rounds X s (k + 1) = sha64.step (K64.getD k 0#64) (X.getD k 0#64) (sha64.rounds X s k) := rfl
              have hSr := HSr.out
              generalize X.getD k 0#64 = xw at cw hstep
              generalize K64.getD k 0#64 = xk at ck hstep
              clear HSr
              generalize sha64.rounds X s k = R at hSr hstep
              obtain ⟨y0, y1, y2, y3, y4, y5, y6, y7⟩ := R
              have s0 := hSr.at_ (k := 0) (u := y0) rfl
              have s1 := hSr.at_ (k := 1) (u := y1) rfl
              have s2 := hSr.at_ (k := 2) (u := y2) rfl
              have s3 := hSr.at_ (k := 3) (u := y3) rfl
              have s4 := hSr.at_ (k := 4) (u := y4) rfl
              have s5 := hSr.at_ (k := 5) (u := y5) rfl
              have s6 := hSr.at_ (k := 6) (u := y6) rfl
              have s7 := hSr.at_ (k := 7) (u := y7) rfl
              simp only [w64] at cw ck s0 s1 s2 s3 s4 s5 s6 s7
              have lk : (k : Int) < 80 := by omega
              have Hst := Lib.hid hstep
              have HSr := Lib.hid hSr
              clear hck hstep hSr
              go_wp2_with fail
              go_quiet ((go_at_call 58; exact quiet_eq (wideS1 _ _)))
              have HX2 := Lib.hid (HX.out.drewN nq)
              have HSr2 := Lib.hid (HSr.out.drewN nq)
              have D := Lib.hid (show (wr.drewN nq).cell? ⟨gs, 0, none⟩ = some (.int .u64 (bv y0)) ∧ (wr.drewN nq).cell? ⟨gs, 1, none⟩ = some (.int .u64 (bv y1)) ∧ (wr.drewN nq).cell? ⟨gs, 2, none⟩ = some (.int .u64 (bv y2)) ∧ (wr.drewN nq).cell? ⟨gs, 3, none⟩ = some (.int .u64 (bv y3)) ∧ (wr.drewN nq).cell? ⟨gs, 4, none⟩ = some (.int .u64 (bv y4)) ∧ (wr.drewN nq).cell? ⟨gs, 5, none⟩ = some (.int .u64 (bv y5)) ∧ (wr.drewN nq).cell? ⟨gs, 6, none⟩ = some (.int .u64 (bv y6)) from ⟨s0, s1, s2, s3, s4, s5, s6⟩)
              clear HX HSr cw ck s0 s1 s2 s3 s4 s5 s6 s7
              generalize wr.drewN nq = wv at HX2 HSr2 D ⊢
              obtain ⟨s0, s1, s2, s3, s4, s5, s6⟩ := D.out
              clear D
              go_wp2_with fail
              go_quiet ((go_at_call 58; exact quiet_eq (wideS0 _ _)))
              try rw [sum4_u64]
              generalize hT1 : y7 + sha64.S1 y4 + (y4 &&& y5 ^^^ ~~~y4 &&& y6) + xk + xw = T1
              have HT1 := Lib.hid hT1
              clear hT1
              generalize hT2 : sha64.S0 y0 + (y0 &&& y1 ^^^ y0 &&& y2 ^^^ y1 &&& y2) = T2
              have HT2 := Lib.hid hT2
              clear hT2
              have HX3 := Lib.hid (HX2.out.drewN nq)
              have HSr3 := Lib.hid (HSr2.out.drewN nq)
              have D := Lib.hid (show (wv.drewN nq).cell? ⟨gs, 0, none⟩ = some (.int .u64 (bv y0)) ∧ (wv.drewN nq).cell? ⟨gs, 1, none⟩ = some (.int .u64 (bv y1)) ∧ (wv.drewN nq).cell? ⟨gs, 2, none⟩ = some (.int .u64 (bv y2)) ∧ (wv.drewN nq).cell? ⟨gs, 3, none⟩ = some (.int .u64 (bv y3)) ∧ (wv.drewN nq).cell? ⟨gs, 4, none⟩ = some (.int .u64 (bv y4)) ∧ (wv.drewN nq).cell? ⟨gs, 5, none⟩ = some (.int .u64 (bv y5)) ∧ (wv.drewN nq).cell? ⟨gs, 6, none⟩ = some (.int .u64 (bv y6)) from ⟨s0, s1, s2, s3, s4, s5, s6⟩)
              clear HX2 HSr2 s0 s1 s2 s3 s4 s5 s6
              generalize wv.drewN nq = wu at HX3 HSr3 D ⊢
              obtain ⟨s0, s1, s2, s3, s4, s5, s6⟩ := D.out
              clear D
              go_wp2_with (refine wpList_store_arr rfl 70 (.tmp 15) (.tmp 159) rfl gs rfl [T1 + T2, y0, y1, y2, y3 + T1, y4, y5, y6] rfl _ _ HSr3.out rfl size8w w64_one ?_; intro w6 hx6 hg6)
              have HX6 := Lib.hid (HX3.out.grown hg6 hgs)
              clear HX3 HSr3 hg6 s0 s1 s2 s3 s4 s5 s6
              go_wp2_with fail
              go_roundw
              case rel =>
                refine ⟨k + 1, by omega, by go_num, ?_, HX6.out⟩
                rw [Hst.out]
                exact hx6.cast (by rw [← HT1.out, ← HT2.out]; rfl)
              case measure => simp [intOf]; omega
            · obtain rfl : k = 80 := by omega
              rw [show (((80 : Nat)) : Int) = 80 from rfl]
              obtain ⟨R, hR⟩ : ∃ R, R = sha64.rounds X s 80 := ⟨_, rfl⟩
              have hS2 := HSr.out
              rw [← hR] at hS2
              have HR := Lib.hid hR
              have HX3 := Lib.hid (show Wd w wr (addTo s R 0) X from HX.out)
              have HR3 := Lib.hid hS2
              have HNe := Lib.hid (show gs ≠ w.heap.size by omega)
              clear hR hS2 HX HSr hlt hk
              go_wp2_with fail
              go_loopw [161] (fun i wr => ∃ k : Nat, k ≤ 8 ∧ i = .int .i64 k ∧ Wd w wr (addTo s R k) X ∧ Arr w64 wr gs 70 R.list) (fun i _ => 8 - (intOf i).toNat)
              case atStart => exact ⟨0, by omega, rfl, HX3.out, HR3.out⟩
              case round =>
                clear HX3 HR3
                obtain ⟨k, hk, rfl, hd, hr⟩ := hrel
                have HD3 := Lib.hid hd
                have HR3 := Lib.hid hr
                clear hd hr
                by_cases hlt : k < 8
                · have c1 := HD3.out.s.cellD (k := k) (by rw [addTo_len _ _ _ hk]; exact hlt) 0#64
                  have f1 := HD3.out.s.frozen k
                  have c2 := HR3.out.cellD (k := k) (by rw [S8.list_len]; exact hlt) 0#64
                  rw [addTo_at _ _ _ hlt] at c1
                  have hs := addTo_set s R k hlt
                  generalize s.list.getD k 0#64 = x1 at c1 hs
                  generalize R.list.getD k 0#64 = x2 at c2 hs
                  simp only [w64] at c1 c2
                  have lk : (k : Int) < 8 := by omega
                  have Hs := Lib.hid hs
                  clear hs
                  go_wp2_with fail
                  go_still_tail 8, (by kernel_rfl)
                  go_wp2_with fail
                  go_roundw
                  case rel =>
                    refine ⟨k + 1, by omega, by go_num, ?_, ?_⟩
                    · exact (HD3.out.drew.setS k (x1 + x2)).castS Hs.out
                    · exact HR3.out.drew.far (by exact HNe.out) _
                  case measure => simp [intOf]; omega
                · obtain rfl : k = 8 := by omega
                  rw [show (((8 : Nat)) : Int) = 8 from rfl]
                  obtain ⟨Z, hZ⟩ : ∃ Z, Z = s.add R := ⟨_, rfl⟩
                  have HZ := Lib.hid hZ
                  have HD4 := Lib.hid (HD3.out.castS (show addTo s R 8 = Z.list by rw [hZ]; rfl))
                  clear hZ HD3
                  go_wp2_with (first
                    | refine wpList_load_arr rfl 70 (.tmp 3) rfl w.heap.size rfl _ Z.list HD4.out.s _ Try.underlying70 rfl (by rw [S8.list_len]; exact size8w) ?_
                    | (refine wpList_store_arr rfl 70 (.tmp 6) (.tmp 173) rfl (w.heap.size + 1) rfl Z.list rfl _ _ HD4.out.o rfl size8w w64_one ?_; intro w9 hx9 hg9))
                  refine bodyPost_ret (v := .agg (Z.list.map w64).toArray) (results_arr (g := w.heap.size + 1) rfl _ _ _ _ _ rfl hx9 Try.underlying70 rfl (by rw [S8.list_len]; exact size8w)) rfl ?_
                  refine ⟨?_, HD4.out.b.grown hg9 HD4.out.b.size (fun k e => by cases e; omega)⟩
                  rw [piece64, ← HXe.out, ← HR.out, HZ.out]
end Go.Proofs.Ytgeighnfgniamaa
