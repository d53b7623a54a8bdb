/- CONTRACT: the reference's long digest. -/
import Derived.Test.YtgeighnfgniamaaRefShort
import Derived.Test.YtgeighnfgniamaaLong
namespace Go.Proofs.Ytgeighnfgniamaa
open Go.RowKit
set_option linter.unusedVariables false
set_option linter.unusedSimpArgs false

theorem rwideTurn_lit (x : BitVec 64) (m : Nat) (w : World) (hm : m ≤ 64) : Calls Try.prog 48 #[.int .u64 (bv x), .int .u64 (no_index (@OfNat.ofNat Int m instOfNat))] w fun e w' => e = .returned (.int .u64 (bv (rotl x (64 - m)))) ∧ w = w' := rwideTurn_any x m hm w
theorem rlongs_v (w : World) : Calls Try.prog 47 #[] w fun e w' => ∃ v, e = .returned v ∧ Own w64 w' w.heap.size 63 v K64 ∧ Below w.heap.size w w' :=
  (rlongs_any w).mono fun _ _ h => ⟨_, h.1, h.2.1, h.2.2⟩
def b64To (k : Nat) : List (BitVec 64) := begin64.list.take k ++ List.replicate (8 - k) 0#64
theorem b64To_len (k : Nat) (hk : k ≤ 8) : (b64To k).length = 8 := by
  unfold b64To; rw [List.length_append, List.length_take, List.length_replicate, S8.list_len]; omega
theorem b64To_set (k : Nat) (hk : k < 8) : (b64To k).set k (begin64.list.getD k 0#64) = b64To (k + 1) := by
  match k, hk with
  | 0, _ => rfl
  | 1, _ => rfl
  | 2, _ => rfl
  | 3, _ => rfl
  | 4, _ => rfl
  | 5, _ => rfl
  | 6, _ => rfl
  | 7, _ => rfl
theorem word_step (y : BitVec 64) (b : BitVec 8) : y * 256#64 + b.setWidth 64 = y <<< 8 ||| b.setWidth 64 := by
  rw [show (256#64) = BitVec.ofNat 64 (2 ^ 8) from rfl, mul_pow, or_sum _ (b.setWidth 64) 8 (fun i h => shl_low _ _ _ h) (fun i h => setW_high b i h)]
set_option maxRecDepth 100000 in
set_option maxHeartbeats 8000000 in
theorem refLong_any (w : World) (B c m : Nat) (A : Option Addr) (xs : List (BitVec 8)) (hr : Rd b8 w B A xs) (hB : B ≤ w.heap.size) (hm : m = xs.length) (hbig : m ≤ 50000000) :
    Calls Try.prog 24 #[.slice A m c] w fun e w' => e = .returned (arrV b8 (sum64 xs)) ∧ Below w.heap.size w w' := by
  obtain ⟨i0, hi0, hz0, hz1, hz2⟩ := info_parts infoU64r
  have HM := Lib.hid hm
  have HR := Lib.hid hr
  have HO0 := Lib.hid (Arr.new b8 w 35 (List.replicate 64 0#8))
  clear hm hr
  go_enter Try.func24, Try.ntmps24
  go_wp2_with fail
  have HH0 := Lib.hid (show Arr w64 ((w.alloc (.cells ((List.replicate 64 0#8).map b8).toArray 35)).alloc (.cells ((List.replicate 8 0#64).map w64).toArray 70)) (w.heap.size + 1) 70 (List.replicate 8 0#64) from Arr.at_size w64 _ (List.replicate 8 0#64) (by simp))
  refine (rbegin_any _).mono ?_
  rintro e w1 ⟨rfl, hown1, hb1⟩
  have hz1' := hb1.size
  simp only [World.size_alloc] at hown1 hb1 hz1'
  have hob1 := (hown1.lt _ rfl).2
  have HBo := Lib.hid hown1
  have HO1 := Lib.hid ((HO0.out.alloc _).below hb1 (by omega))
  have HB1 := Lib.hid (Below.trans (((Below.refl _ w).alloc (Nat.le_refl _) _).alloc (by simp) _) (hb1.mono (by omega)))
  have HH1 := Lib.hid (show Arr w64 w1 (w.heap.size + 1) 70 (b64To 0) from (HH0.out.below hb1 (by omega)).cast (by decide))
  clear hown1 hb1 HO0 HH0
  go_wp2_with fail
  go_loopw [5] (fun i wr => ∃ k : Nat, k ≤ 8 ∧ i = .int .i64 k ∧ Arr w64 wr (w.heap.size + 1) 70 (b64To k) ∧ w1.grownBy wr (some (w.heap.size + 1))) (fun i _ => 8 - (intOf i).toNat)
  case atStart => exact ⟨0, by omega, rfl, HH1.out, World.grownBy.refl _ _⟩
  case round =>
    clear HH1
    obtain ⟨k, hk, rfl, hh, hg⟩ := hrel
    have HH := Lib.hid hh
    have HG := Lib.hid hg
    clear hh hg
    by_cases hlt : k < 8
    · have c1 : wr.cell? ⟨w.heap.size + 1 + 1, k, none⟩ = some (w64 (begin64.list.getD k 0#64)) := by
        have h1 := ((HBo.out.kept HG.out (.inr (by simp [Value.ownBlock]))).at_ (k := k) (by rw [S8.list_len]; exact hlt)).1
        rw [h1]; simp [List.getD, List.getElem?_eq_getElem (show k < begin64.list.length by rw [S8.list_len]; exact hlt)]
      have c2 := HH.out.cellD (k := k) (by rw [b64To_len k hk]; exact hlt) 0#64
      have f2 := HH.out.frozen k
      have hs := b64To_set k hlt
      generalize begin64.list.getD k 0#64 = x at c1 hs
      simp only [w64] at c1
      have Hs := Lib.hid hs
      have lk : (k : Int) < 8 := by omega
      clear hs
      go_wp2_with fail
      go_roundw
      case rel => exact ⟨k + 1, by omega, by go_num, (HH.out.set_ k x).cast Hs.out, grown_set HG.out (.inl rfl) _⟩
      case measure => simp [intOf]; omega
    · obtain rfl : k = 8 := by omega
      rw [show (((8 : Nat)) : Int) = 8 from rfl]
      have hgw := HG.out.size
      have hhl := HH.out.lt
      have HH2 := Lib.hid (show Arr w64 wr (w.heap.size + 1) 70 begin64.list from HH.out.cast (by decide))
      have HO2 := Lib.hid (HO1.out.grown HG.out (by simp))
      have HB2 := Lib.hid (HB1.out.grown HG.out HB1.out.size (fun k e => by cases e; omega))
      clear HH HG hk hlt
      obtain ⟨wa, rfl⟩ : ∃ wa : World, wa = wr := ⟨_, rfl⟩
      go_wp2_with fail
      refine (rlongs_v _).mono ?_
      rintro e w3 ⟨v3, rfl, hown3, hb3⟩
      obtain ⟨gk, ck, rfl, hgk, hgk2, -⟩ := hown3.form' K64_len (by omega)
      have hz3 := hb3.size
      have hpd := rpad_any xs m 128 16 (.inr ⟨rfl, rfl⟩) w3 B A c (HR.out.below ((HB2.out.trans (hb3.mono HB2.out.size)).mono hB)) (by have := HB2.out.size; omega) HM.out (by omega)
      have HPd := Lib.hid (show Calls Try.prog 39 #[.slice A m c, .int .i64 128, .int .i64 16] w3 _ from hpd)
      have HK3 := Lib.hid hown3
      have HH3 := Lib.hid (HH2.out.below hb3 (by omega))
      have HO3 := Lib.hid (HO2.out.below hb3 HO2.out.lt)
      have HB3 := Lib.hid (HB2.out.trans (hb3.mono HB2.out.size))
      clear hown3 hb3 hpd HH2 HO2 HB2
      go_wp2_with fail
      refine HPd.out.mono ?_
      rintro e W0 ⟨v4, rfl, hown4, hb4⟩
      obtain ⟨P, hP⟩ : ∃ P, P = padded xs m 128 16 := ⟨_, rfl⟩
      obtain ⟨NP, hNP⟩ : ∃ NP, NP = P.length / 128 := ⟨_, rfl⟩
      have hPl : P.length = 128 * NP ∧ 0 < NP ∧ NP ≤ 1000000 := by
        have h1 := padZ_hit m 128 16 (.inr ⟨rfl, rfl⟩)
        have h2 := padZ_lt m 128 16 (.inr ⟨rfl, rfl⟩)
        have h3 : P.length = m + 1 + padZ m 128 16 + 16 := by
          rw [hP]; unfold padded
          rw [← HM.out, List.length_append, List.length_cons, List.length_append, List.length_replicate, beN_len, ← HM.out]; omega
        rw [hNP, h3]; omega
      rw [← hP] at hown4
      obtain ⟨gp, cp, e4, hgp, hgp2, -⟩ := hown4.form' hPl.1 (by omega)
      subst e4
      have hz4 := hb4.size
      have HP4 := Lib.hid hown4
      have HK4 := Lib.hid (HK3.out.below hb4 (Nat.le_refl _))
      have HH4 := Lib.hid (show Arr w64 W0 (w.heap.size + 1) 70 (sha64.pieces 0 P begin64).list from HH3.out.below hb4 (by omega))
      have HO4 := Lib.hid (HO3.out.below hb4 HO3.out.lt)
      have HB4 := Lib.hid (HB3.out.trans (hb4.mono HB3.out.size))
      have HPe := Lib.hid hP
      have HNP := Lib.hid hNP
      have HPl := Lib.hid hPl.1
      have hNP3 := hPl.2
      have hg1k : w.heap.size + 1 < gk := by omega
      have hg1p : (w.heap.size + 1) < gp := by omega
      have hgkW : gk < W0.heap.size := by omega
      have hg1W : (w.heap.size + 1) < W0.heap.size := by omega
      clear hown4 hb4 hP hNP hPl HK3 HH3 HO3 HB3 HPd
      go_wp2_with fail
      obtain ⟨LP, hLP⟩ : ∃ LP, LP = 128 * NP := ⟨_, rfl⟩
      rw [← hLP]
      have HLP := Lib.hid hLP
      have hLPb : LP ≤ 128000000 := by omega
      clear hLP
      go_loopw [8] (fun i wr => ∃ j at_ : Nat, at_ = 128 * j ∧ j ≤ NP ∧ i = .int .i64 (at_ : Int) ∧ Arr w64 wr (w.heap.size + 1) 70 (sha64.pieces j P begin64).list ∧ W0.grownBy wr (some (w.heap.size + 1))) (fun i _ => LP - (intOf i).toNat)
      case atStart => exact ⟨0, 0, rfl, by omega, rfl, HH4.out, World.grownBy.refl _ _⟩
      case round =>
        clear HH4
        obtain ⟨j, at_, hat, hjN, rfl, hh, hg⟩ := hrel
        obtain ⟨H, hH⟩ : ∃ H, H = sha64.pieces j P begin64 := ⟨_, rfl⟩
        rw [← hH] at hh
        have hgw := hg.size
        obtain ⟨W1, rfl⟩ : ∃ W1 : World, W1 = wr := ⟨_, rfl⟩
        have HHa := Lib.hid hh
        have HGa := Lib.hid hg
        have HHe := Lib.hid hH
        have Hat := Lib.hid hat
        have HKw := Lib.hid (HK4.out.kept hg (.inr (by simp [Value.ownBlock]; omega)))
        have HPw := Lib.hid (HP4.out.kept hg (.inr (by simp [Value.ownBlock]; omega)))
        have hatb : at_ ≤ LP := by rw [hat, HLP.out]; exact Nat.mul_le_mul_left 128 hjN
        clear hh hg hH
        by_cases hlt : j < NP
        · have hat64 : at_ + 128 ≤ LP := by rw [HLP.out, hat]; omega
          have hPlen := HPl.out
          obtain ⟨q0, hq0⟩ : ∃ q0, q0 = (P.drop (128 * j)).take 128 := ⟨_, rfl⟩
          have hq0l : q0.length = 128 := by rw [hq0, List.length_take, List.length_drop]; omega
          have hq0at : ∀ t, t < 128 → q0.getD t 0#8 = P.getD (at_ + t) 0#8 := fun t ht => by
            rw [hq0, getD_drop_take _ _ _ _ ht (by omega), hat, List.getD, List.getElem?_eq_getElem (by omega)]; rfl
          have hcp : ∀ t, t < 128 → W1.cell? ⟨gp, at_ + t, none⟩ = some (b8 (q0.getD t 0#8)) := fun t ht => by
            rw [hq0at t ht]
            have h2 : at_ + t < P.length := by rw [HPl.out, ← HLP.out]; omega
            rw [(HPw.out.at_ h2).1, List.getD, List.getElem?_eq_getElem h2]; rfl
          have HCp := Lib.hid hcp
          have HQ := Lib.hid hq0
          have HQl := Lib.hid hq0l
          have hgpW : gp < W1.heap.size := by omega
          have hlt64 : decide (at_ < LP) = true := by simp; omega
          clear hcp hq0 hq0l hq0at hPlen hat
          go_wp2_with fail
          clear hlt64
          go_loopw [9, 10] (fun v i wr => ∃ k : Nat, k ≤ 16 ∧ i = .int .i64 k ∧ Own w64 wr W1.heap.size 63 v (sha64.sched q0 k) ∧ Below W1.heap.size W1 wr) (fun _ i _ => 16 - (intOf i).toNat)
          case atStart => exact ⟨0, by omega, rfl, Own.nil_ _ _ _ _, Below.refl _ _⟩
          case round =>
            obtain ⟨k, hk, rfl, hown, hb⟩ := hrel
            have HO := Lib.hid hown
            have HB := Lib.hid hb
            have hzw := hb.size
            clear hown hb
            by_cases hlt2 : k < 16
            · skip
              have Hsl := Lib.hid (Sha.sched_len sha64 q0 k)
              have Hw := Lib.hid (show sha64.next q0 (sha64.sched q0 k) = wordTo q0 k 8 from next_word _ _ _ hlt2)
              have hdec : decide ((k : Int) < 16) = true := by simp; omega
              obtain ⟨wc, rfl⟩ : ∃ wc : World, wc = wr := ⟨_, rfl⟩
              go_wp2_with fail
              go_loop [11, 12] (fun v i => ∃ t : Nat, t ≤ 8 ∧ i = .int .i64 t ∧ v = .int .u64 (bv (wordTo q0 k t))) (fun _ i => 8 - (intOf i).toNat)
              case atStart => exact ⟨0, by omega, rfl, rfl⟩
              case round =>
                obtain ⟨t, ht, rfl, rfl⟩ := hrel
                by_cases hlt3 : t < 8
                · obtain ⟨p0, hp0⟩ : ∃ p0, p0 = at_ + 8 * k + t := ⟨_, rfl⟩
                  have c0 : wc.cell? ⟨gp, at_ + (8 * k + t), none⟩ = some (b8 (q0.getD (8 * k + t) 0#8)) := (HB.out.cell (p := ⟨gp, at_ + (8 * k + t), none⟩) hgpW).trans (HCp.out (8 * k + t) (by omega))
                  rw [show at_ + (8 * k + t) = p0 by omega] at c0
                  have hw := wordTo_succ q0 k t (by rw [HQl.out]; omega)
                  generalize q0.getD (8 * k + t) 0#8 = x0 at c0 hw
                  generalize wordTo q0 k t = y0 at hw
                  simp only [b8] at c0
                  have eq : (at_ : Int) + 8 * (k : Int) + (t : Int) = (p0 : Int) := by omega
                  have l0 : (p0 : Int) < (LP : Int) := by omega
                  rw [← word_step] at hw
                  have Hwt := Lib.hid hw
                  clear hw hp0
                  go_wp2_with fail
                  go_round
                  case rel => exact ⟨t + 1, by omega, by go_num, by rw [Hwt.out]⟩
                  case measure => simp [intOf]; omega
                · obtain rfl : t = 8 := by omega
                  rw [show (((8 : Nat)) : Int) = 8 from rfl]
                  generalize wordTo q0 k 8 = y at Hw
                  go_wp2_with (at_builtin; refine wpList_append_rd rfl _ _ 59 rfl w64_one W1.heap.size 63 i0 _ 8 Try.underlying59 hi0 hz0 hz1 hz2 rfl _ _ rfl (HO.out.alloc _) (wc.heap.size + 1) _ 1 1 [y] rfl rfl (Rd.new w64 wc 63 [y]) (by rw [Hsl.out]; simp [maxLen]; omega) (by rw [Hsl.out]; simp; omega) (by simp; omega) ?_; intro v7 w7 hown7 hg7 hbb7)
                  go_roundw
                  case rel => exact ⟨k + 1, by omega, by go_num, (by rw [show sha64.sched q0 (k + 1) = sha64.sched q0 k ++ [sha64.next q0 (sha64.sched q0 k)] from rfl, Hw.out]; exact hown7), hbb7 _ _ (Nat.le_refl _) (HB.out.alloc hzw _)⟩
                  case measure => simp [intOf]; omega
            · obtain rfl : k = 16 := by omega
              rw [show (((16 : Nat)) : Int) = 16 from rfl]
              clear hlt2 hk
              go_wp2_with fail
              go_loopw [9, 13] (fun v i wr => ∃ k : Nat, 16 ≤ k ∧ k ≤ 80 ∧ i = .int .i64 k ∧ Own w64 wr W1.heap.size 63 v (sha64.sched q0 k) ∧ Below W1.heap.size W1 wr) (fun _ i _ => 80 - (intOf i).toNat)
              case atStart => exact ⟨16, by omega, by omega, rfl, HO.out, HB.out⟩
              case round =>
                clear HO HB
                obtain ⟨k, hk16, hk, rfl, hown, hb⟩ := hrel
                obtain ⟨gw, cw, rfl, hgw1, hgw2, -⟩ := hown.form' (Sha.sched_len sha64 q0 k) (by omega)
                have HO := Lib.hid hown
                have HB := Lib.hid hb
                have hzw := hb.size
                clear hown hb
                by_cases hlt2 : k < 80
                · skip
                  obtain ⟨k2, hk2⟩ : ∃ m, k = m + 2 := ⟨k - 2, by omega⟩
                  obtain ⟨k7, hk7⟩ : ∃ m, k = m + 7 := ⟨k - 7, by omega⟩
                  obtain ⟨k15, hk15⟩ : ∃ m, k = m + 15 := ⟨k - 15, by omega⟩
                  obtain ⟨k16, hk16'⟩ : ∃ m, k = m + 16 := ⟨k - 16, by omega⟩
                  have hca : ∀ t, t < k → wr.cell? ⟨gw, t, none⟩ = some (w64 ((sha64.sched q0 k).getD t 0#64)) := fun t ht => by
                    have h2 : t < (sha64.sched q0 k).length := by rw [Sha.sched_len]; exact ht
                    rw [(HO.out.at_ h2).1, List.getD, List.getElem?_eq_getElem h2]; rfl
                  have c2 := hca k2 (by omega)
                  have c7 := hca k7 (by omega)
                  have c15 := hca k15 (by omega)
                  have c16 := hca k16 (by omega)
                  have hw := next_mix sha64 q0 k k2 k7 k15 k16 hk16 hk2 hk7 hk15 hk16'
                  generalize (sha64.sched q0 k).getD k2 0#64 = x2 at c2 hw
                  generalize (sha64.sched q0 k).getD k7 0#64 = x7 at c7 hw
                  generalize (sha64.sched q0 k).getD k15 0#64 = x15 at c15 hw
                  generalize (sha64.sched q0 k).getD k16 0#64 = x16 at c16 hw
                  simp only [w64] at c2 c7 c15 c16
                  have d2 : (k : Int) - 2 = (k2 : Int) := by omega
                  have d15 : (k : Int) - 15 = (k15 : Int) := by omega
                  have e7 : IntKind.i64.wrap ((k : Int) - 7) = (k7 : Int) := by rw [IntWalk.i64_in _ (by omega)]; omega
                  have e16 : IntKind.i64.wrap ((k : Int) - 16) = (k16 : Int) := by rw [IntWalk.i64_in _ (by omega)]; omega
                  have l2 : k2 < k := by omega
                  have l7 : k7 < k := by omega
                  have l15 : k15 < k := by omega
                  have l16 : k16 < k := by omega
                  have l2' : (k2 : Int) < (k : Int) := by omega
                  have l7' : (k7 : Int) < (k : Int) := by omega
                  have l15' : (k15 : Int) < (k : Int) := by omega
                  have l16' : (k16 : Int) < (k : Int) := by omega
                  have Q7 := Lib.hid c7
                  have Q16 := Lib.hid c16
                  have Hw := Lib.hid hw
                  have Hsl := Lib.hid (Sha.sched_len sha64 q0 k)
                  clear hw hk2 hk7 hk15 hk16' hca
                  go_wp2_with fail
                  go_region_held3 (fun w' => w'.cell? ⟨gw, k7, none⟩ = some (.int .u64 (bv x7)) ∧ w'.cell? ⟨gw, k16, none⟩ = some (.int .u64 (bv x16)))
                    (first
                      | exact ⟨(hg7.keepCell (HO.out.drew.alloc _) hown7 rfl (by rw [Hsl.out]; exact l7)).trans ((World.cell?_alloc_lt _ _ ⟨gw, k7, none⟩ hgw2).trans Q7.out), (hg7.keepCell (HO.out.drew.alloc _) hown7 rfl (by rw [Hsl.out]; exact l16)).trans ((World.cell?_alloc_lt _ _ ⟨gw, k16, none⟩ hgw2).trans Q16.out)⟩
                      | go_keep)
                    (first
                      | (go_simp; refine (rwideTurn_lit _ _ _ (by decide)).mono ?_; rintro e w' ⟨rfl, rfl⟩)
                      | (refine step_append_rd rfl _ _ 59 (by rfl) w64_one W1.heap.size 63 i0 _ 8 Try.underlying59 hi0 hz0 hz1 hz2 rfl _ _ (by rfl) (HO.out.drew.alloc _) (wr.heap.size + 1) _ 1 1 [sha64.s1 x2 + x7 + sha64.s0 x15 + x16] (by rfl) rfl (Rd.new w64 _ _ [_]) (by rw [Hsl.out]; simp [maxLen]; omega) (by rw [Hsl.out]; simp; omega) (by simp; omega) ?_; intro v7 w7 hown7 hg7 hbb7))
                  obtain ⟨gw7, cw7, rfl, -, -, -⟩ := hown7.form' (n := k + 1) (by rw [List.length_append, Hsl.out]; rfl) (by omega)
                  clear e7 e16 d2 d15 c2 c7 c15 c16
                  go_wp2_with fail
                  go_roundw
                  case rel => exact ⟨k + 1, by omega, by omega, by go_num, (by rw [show sha64.sched q0 (k + 1) = sha64.sched q0 k ++ [sha64.next q0 (sha64.sched q0 k)] from rfl, Hw.out]; exact hown7), hbb7 _ _ (Nat.le_refl _) (HB.out.drew.alloc hzw _)⟩
                  case measure => simp [intOf]; omega
                · obtain rfl : k = 80 := by omega
                  rw [show (((80 : Nat)) : Int) = 80 from rfl]
                  clear hlt2 hk hk16
                  obtain ⟨X, hX⟩ : ∃ X, X = sha64.sched q0 80 := ⟨_, rfl⟩
                  have HX := Lib.hid (show Own w64 wr W1.heap.size 63 (.slice (some ⟨gw, 0, none⟩) 80 cw) X by rw [hX]; exact HO.out)
                  have HXl := Lib.hid (show X.length = 80 by rw [hX, Sha.sched_len])
                  have HXe := Lib.hid hX
                  have hhl := HHa.out.lt
                  have HH5 := Lib.hid (HHa.out.below HB.out hhl)
                  obtain ⟨gs, hgs⟩ : ∃ gs, gs = wr.heap.size := ⟨_, rfl⟩
                  have HS0 := Lib.hid (show Arr w64 (wr.alloc (.cells ((List.replicate 8 0#64).map w64).toArray 70)) gs 70 (List.replicate 8 0#64) from hgs ▸ Arr.new w64 wr _ _)
                  have HGs := Lib.hid hgs
                  have hgsW : W1.heap.size ≤ gs := by omega
                  have hgsg : (w.heap.size + 1) < gs := by omega
                  have hgsw : gw < gs := by omega
                  clear HO hX hgs
                  go_wp2_with (first
                    | refine wpList_load_arr rfl 70 (.tmp 3) rfl (w.heap.size + 1) rfl _ H.list HH5.out _ Try.underlying70 rfl (by rw [S8.list_len]; exact size8w) ?_
                    | (rw [← HGs.out]; refine wpList_store_arr rfl 70 (.tmp 16) (.tmp 115) rfl gs rfl H.list rfl _ _ HS0.out rfl size8w w64_one ?_; intro w5 hx5 hg5))
                  have HS5 := Lib.hid hx5
                  have HX5 := Lib.hid ((HX.out.alloc (.cells ((List.replicate 8 0#64).map w64).toArray 70)).kept hg5 (.inr (by simp [Value.ownBlock]; omega)))
                  have HG5 := Lib.hid (show W1.grownBy w5 none from grownBy_trans' (grown_alloc (below_none HB.out) _) hg5 hgsW)
                  clear hx5 hg5 HS0 HX HB HH5
                  go_loopw [17] (fun i wr => ∃ k : Nat, k ≤ 80 ∧ i = .int .i64 k ∧ Arr w64 wr gs 70 (sha64.rounds X H k).list ∧ Own w64 wr W1.heap.size 63 (.slice (some ⟨gw, 0, none⟩) 80 cw) X ∧ W1.grownBy wr none) (fun i _ => 80 - (intOf i).toNat)
                  case atStart => exact ⟨0, by omega, rfl, HS5.out, HX5.out, HG5.out⟩
                  case round =>
                    clear HS5 HX5 HG5
                    obtain ⟨k, hk, rfl, hS, hX, hG⟩ := hrel
                    have HSr := Lib.hid hS
                    have HX := Lib.hid hX
                    have HG := Lib.hid hG
                    clear hS hX hG
                    by_cases hlt2 : k < 80
                    · skip
                      have hck : wr.cell? ⟨gk, k, none⟩ = some (w64 (K64.getD k 0#64)) := by
                        have h2 : k < K64.length := by rw [K64_len]; exact hlt2
                        rw [((HKw.out.kept HG.out (.inr (by simp [Value.ownBlock]))).at_ h2).1, List.getD, List.getElem?_eq_getElem h2]; rfl
                      have hcw : wr.cell? ⟨gw, k, none⟩ = some (w64 (X.getD k 0#64)) := by
                        have h2 : k < X.length := by rw [HXl.out]; exact hlt2
                        rw [(HX.out.at_ h2).1, List.getD, List.getElem?_eq_getElem h2]; rfl
                      have hstep : sha64.rounds X H (k + 1) = sha64.step (K64.getD k 0#64) (X.getD k 0#64) (sha64.rounds X H k) := rfl
                      have hSr := HSr.out
                      generalize X.getD k 0#64 = xw at hcw hstep
                      generalize K64.getD k 0#64 = xk at hck hstep
                      clear HSr
                      generalize sha64.rounds X H k = R at hSr hstep
                      obtain ⟨y0, y1, y2, y3, y4, y5, y6, y7⟩ := R
                      have s0 := hSr.at_ (k := 0) (u := y0) rfl
                      have s1 := hSr.at_ (k := 1) (u := y1) rfl
                      have s2 := hSr.at_ (k := 2) (u := y2) rfl
                      have s4 := hSr.at_ (k := 4) (u := y4) rfl
                      have s5 := hSr.at_ (k := 5) (u := y5) rfl
                      have s6 := hSr.at_ (k := 6) (u := y6) rfl
                      have s7 := hSr.at_ (k := 7) (u := y7) rfl
                      simp only [w64] at hck hcw s0 s1 s2 s4 s5 s6 s7
                      have lk : (k : Int) < 80 := by omega
                      have hdec : decide ((k : Int) < 80) = true := by simp; omega
                      have Hst := Lib.hid hstep
                      have HSr := Lib.hid hSr
                      clear hstep hSr
                      go_wp2_with fail
                      go_quiet ((go_at_call 48; exact quiet_eq (rwideTurn_lit _ _ _ (by decide))))
                      generalize hT1 : y7 + (rotl y4 50 ^^^ rotl y4 46 ^^^ rotl y4 23) + (y4 &&& y5 ^^^ 18446744073709551615#64 - y4 &&& y6) + xk + xw = T1
                      have HT1 := Lib.hid hT1
                      have HX2 := Lib.hid (show Own w64 (wr.drewN nq) W1.heap.size 63 (.slice (some ⟨gw, 0, none⟩) 80 cw) X from HX.out)
                      have HG2 := Lib.hid (grown_drewN HG.out nq)
                      have HSr2 := Lib.hid (HSr.out.drewN nq)
                      have D := Lib.hid (show (wr.drewN nq).cell? ⟨gs, 0, none⟩ = some (.int .u64 (bv y0)) ∧ (wr.drewN nq).cell? ⟨gs, 1, none⟩ = some (.int .u64 (bv y1)) ∧ (wr.drewN nq).cell? ⟨gs, 2, none⟩ = some (.int .u64 (bv y2)) from ⟨s0, s1, s2⟩)
                      clear hT1 HX HG HSr hcw hck s0 s1 s2 s4 s5 s6 s7
                      generalize wr.drewN nq = wv at HX2 HG2 HSr2 D ⊢
                      obtain ⟨s0, s1, s2⟩ := D.out
                      clear D
                      go_wp2_with fail
                      go_quiet ((go_at_call 48; exact quiet_eq (rwideTurn_lit _ _ _ (by decide))))
                      generalize hT2 : (rotl y0 36 ^^^ rotl y0 30 ^^^ rotl y0 25) + (y0 &&& y1 ^^^ y0 &&& y2 ^^^ y1 &&& y2) = T2
                      have HT2 := Lib.hid hT2
                      have HX3 := Lib.hid (show Own w64 (wv.drewN nq) W1.heap.size 63 (.slice (some ⟨gw, 0, none⟩) 80 cw) X from HX2.out)
                      have HG3 := Lib.hid (grown_drewN HG2.out nq)
                      have HSr3 := Lib.hid (show Arr w64 (wv.drewN nq) gs 70 (shiftTo (S8.list ⟨y0, y1, y2, y3, y4, y5, y6, y7⟩) 7) from HSr2.out.drewN nq)
                      clear hT2 HX2 HG2 HSr2 s0 s1 s2
                      generalize wv.drewN nq = wu at HX3 HG3 HSr3 ⊢
                      go_wp2_with fail
                      go_loopw [20] (fun i wr => ∃ j : Nat, j ≤ 7 ∧ i = .int .i64 j ∧ Arr w64 wr gs 70 (shiftTo (S8.list ⟨y0, y1, y2, y3, y4, y5, y6, y7⟩) j) ∧ Own w64 wr W1.heap.size 63 (.slice (some ⟨gw, 0, none⟩) 80 cw) X ∧ W1.grownBy wr none) (fun i _ => (intOf i).toNat)
                      case atStart => exact ⟨7, by omega, rfl, HSr3.out, HX3.out, HG3.out⟩
                      case round =>
                        clear HSr3 HX3 HG3
                        obtain ⟨j, hj, rfl, hS, hX, hG⟩ := hrel
                        have HSr := Lib.hid hS
                        have HX := Lib.hid hX
                        have HG := Lib.hid hG
                        clear hS hX hG
                        cases j with
                        | succ j =>
                          have c1 := HSr.out.cellD (k := j) (by rw [shift_len _ _ hj]; omega) 0#64
                          have c2 := HSr.out.cellD (k := j + 1) (by rw [shift_len _ _ hj]; omega) 0#64
                          have f2 := HSr.out.frozen (j + 1)
                          have hs := shift_set (⟨y0, y1, y2, y3, y4, y5, y6, y7⟩ : S8 64) j (by omega)
                          rw [shift_at _ _ (by omega)] at c1
                          generalize (S8.list ⟨y0, y1, y2, y3, y4, y5, y6, y7⟩).getD j 0#64 = z at c1 hs
                          simp only [w64] at c1 c2
                          obtain ⟨jj, hjj⟩ : ∃ jj, jj = j + 1 := ⟨_, rfl⟩
                          rw [← hjj] at c2 f2 hs hj ⊢
                          have d1 : (jj : Int) - 1 = (j : Int) := by omega
                          have lj : (jj : Int) < 8 := by omega
                          have lp : (0 : Int) < (jj : Int) := by omega
                          have lj2 : (j : Int) < 8 := by omega
                          have Hs := Lib.hid hs
                          have Hjj := Lib.hid hjj
                          clear hs hjj
                          go_wp2_with fail
                          go_roundw
                          case rel => exact ⟨j, by omega, rfl, (HSr.out.set_ jj z).cast (by rw [Hjj.out] at Hs ⊢; exact Hs.out), HX.out.kept (grown_set (World.grownBy.refl _ _) (.inl rfl) _) (.inr (arr_not_own2 HSr.out (by decide) HX.out)), grown_set HG.out (.inr hgsW) _⟩
                          case measure => simp [intOf]; omega
                        | zero =>
                          have s4 := HSr.out.at_ (k := 4) (u := y3) rfl
                          have s0 := HSr.out.at_ (k := 0) (u := y0) rfl
                          have f4 := HSr.out.frozen 4
                          have f0 := HSr.out.frozen 0
                          simp only [w64] at s4 s0
                          go_wp2_with fail
                          go_roundw
                          case rel =>
                            refine ⟨k + 1, by omega, by go_num, ?_, ?_, ?_⟩
                            · rw [Hst.out]
                              have h2 := (HSr.out.set_ 4 (y3 + T1)).set_ 0 (T1 + T2)
                              refine h2.cast ?_
                              rw [← HT1.out, ← HT2.out, all_sub64]
                              rfl
                            · exact (HX.out.kept (grown_set (World.grownBy.refl _ _) (.inl rfl) _) (.inr (arr_not_own2 HSr.out (by decide) HX.out))).kept (grown_set (World.grownBy.refl _ _) (.inl rfl) _) (.inr (arr_not_own2 (HSr.out.set_ 4 (y3 + T1)) (by decide) (HX.out.kept (grown_set (World.grownBy.refl _ _) (.inl rfl) _) (.inr (arr_not_own2 HSr.out (by decide) HX.out)))))
                            · exact grown_set (grown_set HG.out (.inr hgsW) _) (.inr hgsW) _
                          case measure => simp [intOf]; omega
                    · obtain rfl : k = 80 := by omega
                      rw [show (((80 : Nat)) : Int) = 80 from rfl]
                      obtain ⟨R, hR⟩ : ∃ R, R = sha64.rounds X H 80 := ⟨_, rfl⟩
                      have hS2 := HSr.out
                      rw [← hR] at hS2
                      have HRe := Lib.hid hR
                      have HSr2 := Lib.hid hS2
                      have hh := HHa.out.grown HG.out (by simp)
                      have HA0 := Lib.hid (show Arr w64 wr (w.heap.size + 1) 70 (addTo H R 0) from hh)
                      have HG0 := Lib.hid (show W0.grownBy wr (some (w.heap.size + 1)) from ⟨HG.out.os.trans HGa.out.os, HG.out.tape.trans HGa.out.tape, HG.out.output.trans HGa.out.output, Nat.le_trans HGa.out.size HG.out.size, fun i hi hne => (HG.out.block i (Nat.lt_of_lt_of_le hi HGa.out.size) (by simp)).trans (HGa.out.block i hi hne)⟩)
                      have HNe := Lib.hid (show gs ≠ (w.heap.size + 1) by omega)
                      clear hR hS2 hh HSr HX HG hlt2 hk
                      go_wp2_with fail
                      go_loopw [21] (fun i wr => ∃ k : Nat, k ≤ 8 ∧ i = .int .i64 k ∧ Arr w64 wr (w.heap.size + 1) 70 (addTo H R k) ∧ Arr w64 wr gs 70 R.list ∧ W0.grownBy wr (some (w.heap.size + 1))) (fun i _ => 8 - (intOf i).toNat)
                      case atStart => exact ⟨0, by omega, rfl, HA0.out, HSr2.out, HG0.out⟩
                      case round =>
                        clear HA0 HSr2 HG0
                        obtain ⟨k, hk, rfl, hd, hr, hG⟩ := hrel
                        have HD3 := Lib.hid hd
                        have HR3 := Lib.hid hr
                        have HG3 := Lib.hid hG
                        clear hd hr hG
                        by_cases hlt2 : k < 8
                        · have c1 := HD3.out.cellD (k := k) (by rw [addTo_len _ _ _ hk]; exact hlt2) 0#64
                          have f1 := HD3.out.frozen k
                          have c2 := HR3.out.cellD (k := k) (by rw [S8.list_len]; exact hlt2) 0#64
                          rw [addTo_at _ _ _ hlt2] at c1
                          have hs := addTo_set H R k hlt2
                          generalize H.list.getD k 0#64 = x1 at c1 hs
                          generalize R.list.getD k 0#64 = x2 at c2 hs
                          simp only [w64] at c1 c2
                          have lk : (k : Int) < 8 := by omega
                          have Hs := Lib.hid hs
                          clear hs
                          go_wp2_with fail
                          go_still_tail 9, (by kernel_rfl)
                          go_wp2_with fail
                          go_roundw
                          case rel =>
                            refine ⟨k + 1, by omega, by go_num, ?_, ?_, ?_⟩
                            · exact (HD3.out.drew.set_ k (x1 + x2)).cast Hs.out
                            · exact HR3.out.drew.far (by exact HNe.out) _
                            · exact grown_set (grown_drewN HG3.out 1) (.inl rfl) _
                          case measure => simp [intOf]; omega
                        · obtain rfl : k = 8 := by omega
                          rw [show (((8 : Nat)) : Int) = 8 from rfl]
                          go_wp2_with fail
                          go_roundw
                          case rel =>
                            refine ⟨j + 1, at_ + 128, by rw [Hat.out]; omega, hlt, by go_num, ?_, HG3.out⟩
                            rw [pieces_succ, show sha64.size = 128 from rfl, Nat.mul_comm j 128, ← HQ.out, ← HHe.out, piece64, ← HXe.out, ← HRe.out]
                            exact HD3.out
                          case measure => simp [intOf]; omega
        · obtain rfl : j = NP := by omega
          have hatL : at_ = LP := by rw [hat, HLP.out]
          subst hatL
          have hgd : ¬ ((at_ : Int) < (at_ : Int)) := by omega
          have HO5 := Lib.hid (HO4.out.grown HGa.out (by simp))
          have HB5 := Lib.hid (HB4.out.grown HGa.out HB4.out.size (fun k e => by cases e; omega))
          have hHl := HHa.out.lt
          obtain ⟨O, hO⟩ : ∃ O, O = H.list.flatMap bytes64 := ⟨_, rfl⟩
          have hOl : O.length = 64 := by rw [hO, out64_len]
          have hOs : O = sum64 xs := by rw [hO, HHe.out, HPe.out]; unfold sum64; rw [HNP.out, HPe.out, HM.out]
          have hat4 := fun t (ht : t < 64) => out64_at H (t / 8) (t % 8) (by omega) (by omega)
          rw [← hO] at hat4
          have HAt := Lib.hid hat4
          have HOl := Lib.hid hOl
          have HOs := Lib.hid hOs
          have HA0 := Lib.hid (show Arr b8 (W1.alloc (.cells ((List.replicate 64 0#8).map b8).toArray 35)) W1.heap.size 35 (fillTo O 0) from (Arr.new b8 W1 35 (List.replicate 64 0#8)).cast (by rw [fillTo_0, hOl]))
          have HH6 := Lib.hid (HHa.out.alloc (.cells ((List.replicate 64 0#8).map b8).toArray 35))
          have HO6 := Lib.hid (HO5.out.alloc (.cells ((List.replicate 64 0#8).map b8).toArray 35))
          have HB6 := Lib.hid (HB5.out.alloc HB5.out.size (.cells ((List.replicate 64 0#8).map b8).toArray 35))
          have hgo : w.heap.size < W1.heap.size := HO5.out.lt
          clear hO hOl hOs hat4 HO5 HB5 hat
          go_wp2_with fail
          go_loopw [23] (fun i wr => ∃ t : Nat, t ≤ 64 ∧ i = .int .i64 t ∧ Arr b8 wr W1.heap.size 35 (fillTo O t) ∧ Arr w64 wr (w.heap.size + 1) 70 H.list ∧ Arr b8 wr w.heap.size 35 (List.replicate 64 0#8) ∧ Below w.heap.size w wr) (fun i _ => 64 - (intOf i).toNat)
          case atStart => exact ⟨0, by omega, rfl, HA0.out, HH6.out, HO6.out, HB6.out⟩
          case round =>
            clear HA0 HH6 HO6 HB6
            obtain ⟨t, ht, rfl, ha, hh, ho, hb⟩ := hrel
            have HA := Lib.hid ha
            have HH7 := Lib.hid hh
            have HO7 := Lib.hid ho
            have HB7 := Lib.hid hb
            clear ha hh ho hb
            by_cases hlt2 : t < 64
            · have hv := HAt.out t hlt2
              rw [show 8 * (t / 8) + t % 8 = t by omega] at hv
              obtain ⟨q, hq⟩ : ∃ q, q = t / 8 := ⟨_, rfl⟩
              obtain ⟨r, hr⟩ : ∃ r, r = t % 8 := ⟨_, rfl⟩
              have c1 := HH7.out.cellD (k := q) (by rw [S8.list_len]; omega) 0#64
              have c2 := HA.out.cellD (k := t) (by rw [fillTo_len _ _ (by rw [HOl.out]; omega), HOl.out]; exact hlt2) 0#8
              have f2 := HA.out.frozen t
              rw [← hq, ← hr] at hv
              generalize H.list.getD q 0#64 = x at c1 hv
              simp only [w64] at c1
              have d1 : (t : Int).tdiv 8 = (q : Int) := by rw [Int.tdiv_eq_ediv_of_nonneg (by omega)]; omega
              have d2 : (t : Int).tmod 8 = (r : Int) := by rw [Int.tmod_eq_emod_of_nonneg (by omega)]; omega
              have r4 : r < 8 := by omega
              have q8 : (q : Int) < 8 := by omega
              have t32 : (t : Int) < 64 := by omega
              obtain ⟨sh, hsh⟩ : ∃ sh, sh = 56 - 8 * r := ⟨_, rfl⟩
              have e1 : (56 : Int) - 8 * (r : Int) = (sh : Int) := by omega
              have e2 : IntKind.u64.wrap (sh : Int) = (sh : Int) := by rw [IntKind.wrap_u64]; omega
              have Hv := Lib.hid hv
              have Hsh := Lib.hid hsh
              clear hv hq hr hsh
              go_wp2_with fail
              go_roundw
              case rel =>
                refine ⟨t + 1, by omega, by go_num, ?_, HH7.out.far (by simp; omega) _, HO7.out.far (by simp; omega) _, HB7.out.setCell (p := ⟨W1.heap.size, t, none⟩) (by simp; omega) _⟩
                have h2 := HA.out.set_ t ((x >>> sh).setWidth 8)
                refine h2.cast ?_
                rw [Hsh.out, ← Hv.out]
                exact fillTo_set _ _ (by rw [HOl.out]; exact hlt2)
              case measure => simp [intOf]; omega
            · obtain rfl : t = 64 := by omega
              rw [show (((64 : Nat)) : Int) = 64 from rfl]
              have HA2 := Lib.hid (show Arr b8 wr W1.heap.size 35 O from HA.out.cast (by have := fillTo_all O; rw [HOl.out] at this; exact this))
              clear HA
              go_wp2_with (first
                | refine wpList_load_arr rfl 35 (.tmp 22) rfl W1.heap.size rfl _ O HA2.out _ Try.underlying35 rfl (by rw [size64b, HOl.out]) ?_
                | (refine wpList_store_arr rfl 35 (.tmp 2) (.tmp 235) rfl w.heap.size rfl O rfl _ _ HO7.out (by rw [HOl.out]; rfl) (by rw [size64b, HOl.out]) b8_one' ?_; intro w9 hx9 hg9))
              refine bodyPost_ret (v := .agg (O.map b8).toArray) (results_arr (g := w.heap.size) rfl _ _ _ _ _ rfl hx9 Try.underlying35 rfl (by rw [size64b, HOl.out])) rfl ?_
              exact ⟨by rw [arrV_mk, HOs.out], HB7.out.grown hg9 HB7.out.size (fun k e => by cases e; exact Nat.le_refl _)⟩
end Go.Proofs.Ytgeighnfgniamaa
