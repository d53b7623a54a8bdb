/- CONTRACT: burrowref03.Mix. -/
import Derived.Test.YtkoefhbmkmepaaaPieceAny
import Derived.Test.YtkoefhbmkmepaaaPut
namespace Go.Proofs.Ytkoefhbmkmepaaa
open Go.RowKit
set_option linter.unusedVariables false
set_option linter.unusedSimpArgs false

/-- byte i of a text, mixed -/
def mixAt (key nonce : List (BitVec 8)) (number : Int) (text : List (BitVec 8)) (i : Nat) : BitVec 8 := text.getD i 0#8 ^^^ (pieceL key nonce (BitVec.ofInt 32 (number + ((i / 64 : Nat) : Int)))).getD (i % 64) 0#8
def mixTo (key nonce : List (BitVec 8)) (number : Int) (text : List (BitVec 8)) (k : Nat) : List (BitVec 8) := (List.range k).map (mixAt key nonce number text)
theorem mixTo_succ (key nonce : List (BitVec 8)) (number : Int) (text : List (BitVec 8)) (k : Nat) : mixTo key nonce number text (k + 1) = mixTo key nonce number text k ++ [mixAt key nonce number text k] := by simp [mixTo, List.range_succ]
theorem mixTo_len (key nonce : List (BitVec 8)) (number : Int) (text : List (BitVec 8)) (k : Nat) : (mixTo key nonce number text k).length = k := by simp [mixTo]
/-- may a text of len bytes be mixed? an error's number -/
def mixBad (n len : Nat) (number : Int) : Nat := if badP n number ≠ 0 then badP n number else if 0 < len ∧ 4294967295 < number + (((len - 1) / 64 : Nat) : Int) then 8 else 0
def mixV (key nonce : List (BitVec 8)) (number : Int) (text : List (BitVec 8)) : List (BitVec 8) := if mixBad nonce.length text.length number = 0 then mixTo key nonce number text text.length else []
theorem mixBad_first {n len : Nat} {number : Int} (h : badP n number ≠ 0) : mixBad n len number = badP n number := if_pos h
theorem mixBad_late {len : Nat} {number : Int} (h : badP 12 number = 0) {k : Nat} (hk : k < len) (hb : 4294967295 < number + ((k / 64 : Nat) : Int)) : mixBad 12 len number = 8 := by
  unfold mixBad
  rw [if_neg (by rw [h]; simp), if_pos ⟨by omega, by have : k / 64 ≤ (len - 1) / 64 := Nat.div_le_div_right (by omega); omega⟩]
theorem mixBad_none {len : Nat} {number : Int} (h : badP 12 number = 0) (hk : ∀ k, k < len → number + ((k / 64 : Nat) : Int) ≤ 4294967295) : mixBad 12 len number = 0 := by
  unfold mixBad
  rw [if_neg (by rw [h]; simp), if_neg]
  rintro ⟨h1, h2⟩
  have := hk (len - 1) (by omega)
  omega
theorem info64' {xs : List (BitVec 8)} (h : xs.length = 64) : (Try.prog.info? 82).map (·.size) = some xs.length := by rw [h]; kernel_rfl
theorem infoKey {xs : List (BitVec 8)} (h : xs.length = 32) : (Try.prog.info? 39).map (·.size) = some xs.length := by rw [h]; kernel_rfl

theorem keepS {w w4 w7 : World} {g3 t tb toff k : Nat} {o : Obj} {v v7 a b : Value} (hg7 : Grew (w4.drew.alloc o) w7 v v7) (hne : v.ownBlock ≠ some g3) (h3 : g3 < w4.heap.size) (ct : w4.cell? ⟨g3, t, none⟩ = some a) (hb : Below w.heap.size w w4)
    (hv : ∀ g, v.ownBlock = some g → w.heap.size ≤ g) (htb : tb < w.heap.size) (c0 : w.cell? ⟨tb, toff + k, none⟩ = some b) : w7.cell? ⟨g3, t, none⟩ = some a ∧ w7.cell? ⟨tb, toff + k, none⟩ = some b := by
  have hz := hb.size
  have h1 : (w4.drew.alloc o).heap.size = w4.heap.size + 1 := World.size_alloc _ _
  have e1 := World.cell?_of_block (a := ⟨g3, t, none⟩) (hg7.by_.block g3 (by omega) (fun e => hne e.symm))
  have e2 := World.cell?_of_block (a := ⟨tb, toff + k, none⟩) (hg7.by_.block tb (by omega) (fun e => by have := hv tb e.symm; omega))
  have e3 : (w4.drew.alloc o).cell? ⟨g3, t, none⟩ = w4.cell? ⟨g3, t, none⟩ := World.cell?_alloc_lt w4.drew o ⟨g3, t, none⟩ h3
  have e4 : (w4.drew.alloc o).cell? ⟨tb, toff + k, none⟩ = w4.cell? ⟨tb, toff + k, none⟩ := World.cell?_alloc_lt w4.drew o ⟨tb, toff + k, none⟩ (by show tb < w4.heap.size; omega)
  exact ⟨(e1.trans e3).trans ct, (e2.trans e4).trans ((hb.cell (p := ⟨tb, toff + k, none⟩) htb).trans c0)⟩
set_option maxRecDepth 100000 in
set_option maxHeartbeats 4000000 in
theorem refMix_any (key : List (BitVec 8)) (A : Option Addr) (n c B : Nat) (nonce : List (BitVec 8)) (number : Int) (T : Option Addr) (m d B' : Nat) (text : List (BitVec 8)) (w : World) (hk : key.length = 32) (hr : Rd b8 w B A nonce) (hB : B ≤ w.heap.size) (hn : nonce.length = n) (hnc : n ≤ c)
    (ht : Rd b8 w B' T text) (hB' : B' ≤ w.heap.size) (hm : text.length = m) (hbig : m ≤ 1100000) :
    Calls Try.prog 43 #[arrV b8 key, .slice A n c, .int .i64 number, .slice T m d] w fun e w' => ∃ v, e = .returned (.tuple #[v, .int .i64 (mixBad n m number : Int)]) ∧ Own b8 w' w.heap.size 5 v (mixV key nonce number text) ∧ Below w.heap.size w w' := by
  obtain ⟨i0, hi0, hz0, hz1, hz2⟩ := info_parts infoU8
  have HK := Lib.hid hk
  have HN := Lib.hid hn
  have HM := Lib.hid hm
  have HR := Lib.hid hr
  have HT := Lib.hid ht
  have HA0 := Lib.hid (Arr.new b8 w 39 key)
  obtain ⟨P, hP⟩ : ∃ P, P = pieceV key nonce number := ⟨_, rfl⟩
  have HP := Lib.hid hP
  have HPl := Lib.hid (show P.length = 64 by rw [hP]; exact pieceV_len _ _ _)
  have h1 := fun w' (hb : Below w.heap.size w w') => piece_any key A n c B nonce number w' hk (hr.below (hb.mono hB)) (Nat.le_trans hB hb.size) hn hnc
  have h2 := fun (q : Int) w' (hb : Below w.heap.size w w') => refPiece_any key A n c B nonce q w' hk (hr.below (hb.mono hB)) (Nat.le_trans hB hb.size) hn hnc
  have h20 := fun w' hb => h2 number w' hb
  simp only [← hP] at h20
  by_cases hbad : badP n number = 0
  · obtain ⟨h12, g0, g1⟩ := badP_zero hbad
    simp only [hbad] at h20
    have H20 := Lib.hid h20
    have H2 := Lib.hid h2
    have HB0 := Lib.hid hbad
    subst h12
    clear hk hr hn ht hm hP h1 h2 h20 hbad
    rw [arrV_mk]
    go_enter Try.func43, Try.ntmps43
    go_wp2_with (refine wpList_load_arr rfl 39 _ rfl w.heap.size rfl _ key HA0.out _ Try.underlying39 rfl (infoKey HK.out) ?_)
    have hW0 : Below w.heap.size w (w.alloc (.cells (key.map b8).toArray 39)) := (Below.refl _ _).alloc (Nat.le_refl _) _
    have hz0' : (w.alloc (.cells (key.map b8).toArray 39)).heap.size = w.heap.size + 1 := by simp
    have hA0 := HA0.out
    clear HA0
    generalize World.alloc w _ = W0 at hA0 hW0 hz0' ⊢
    have HA0 := Lib.hid hA0
    have HW0 := Lib.hid hW0
    have HZ0 := Lib.hid hz0'
    clear hA0 hW0 hz0'
    refine (H20.out _ HW0.out).mono ?_
    rintro e w1 ⟨rfl, hb1⟩
    rw [arrV_mk, show (((0 : Nat)) : Int) = 0 from rfl]
    have HZ1 := Lib.hid (Arr.new b8 w1 82 (List.replicate 64 0#8))
    have HB1 := Lib.hid hb1
    have hs1 := hb1.size
    clear hb1
    go_wp2_with (refine wpList_store_arr rfl 82 _ _ rfl w1.heap.size rfl P rfl _ _ HZ1.out (by rw [HPl.out]; rfl) (info64' HPl.out) b8_one' ?_; intro w2 hp2 hg2)
    have HB2 := Lib.hid (show Below W0.heap.size W0 w2 from (HB1.out.alloc hs1 _).grown hg2 (by simp; omega) (fun k e => by cases e; exact hs1))
    clear hp2 hg2 HZ1 HB1 hs1
    go_loopw [12, 13] (fun v i wr => ∃ k : Nat, k ≤ m ∧ i = .int .i64 k ∧ Own b8 wr W0.heap.size 5 v (mixTo key nonce number text k) ∧ Below W0.heap.size W0 wr ∧ ∀ j, j < k → number + ((j / 64 : Nat) : Int) ≤ 4294967295) (fun _ i _ => m - (intOf i).toNat)
    case atStart => exact ⟨0, by omega, rfl, Own.nil_ _ _ _ _, HB2.out, fun j hj => absurd hj (by omega)⟩
    case round =>
      obtain ⟨k, hkm, rfl, hown, hb, hall⟩ := hrel
      have HO := Lib.hid hown
      have HB := Lib.hid hb
      have HAll := Lib.hid hall
      have hbz := hb.size
      have HK0 := Lib.hid (HA0.out.below hb (by rw [HZ0.out]; omega))
      have hbw : Below w.heap.size w wr := HW0.out.trans (hb.mono (by have := HZ0.out; omega))
      have HBw := Lib.hid hbw
      clear hown hb hall hbw HB2
      by_cases hlt : k < m
      · obtain ⟨q, hq⟩ : ∃ q, q = k / 64 := ⟨_, rfl⟩
        have hlt' : (k : Int) < (m : Int) := by omega
        have hqk : (k : Int) / 64 = (q : Int) := by omega
        have hq2 : q ≤ 20000 := by omega
        obtain ⟨N, hN⟩ : ∃ N, N = number + (q : Int) := ⟨_, rfl⟩
        have hc := H2.out N wr HBw.out
        obtain ⟨R, hR⟩ : ∃ R, R = pieceV key nonce N := ⟨_, rfl⟩
        rw [← hR] at hc
        have HRl := Lib.hid (show R.length = 64 by rw [hR]; exact pieceV_len _ _ _)
        have Hq := Lib.hid hq
        have HNn := Lib.hid hN
        have HRr := Lib.hid hR
        have hN' : number + (q : Int) = N := hN.symm
        have hNb : N ≤ 4294987295 := by omega
        have hNa : 0 ≤ N := by omega
        clear hq hR hN
        by_cases hb2 : 4294967295 < N
        · have hbad2 : badP 12 N = 8 := badP_num rfl (.inr hb2)
          rw [hbad2] at hc
          have HC := Lib.hid hc
          clear hc hbad2
          go_wp2_with (refine wpList_load_arr rfl 39 _ rfl w.heap.size rfl _ key HK0.out _ Try.underlying39 rfl (infoKey HK.out) ?_)
          refine HC.out.mono ?_
          rintro e w3 ⟨rfl, hb3⟩
          rw [arrV_mk, show (((8 : Nat)) : Int) = 8 from rfl]
          have HZ3 := Lib.hid (Arr.new b8 w3 82 (List.replicate 64 0#8))
          have HB3 := Lib.hid hb3
          have hs3 := hb3.size
          clear hb3
          go_wp2_with (refine wpList_store_arr rfl 82 _ _ rfl w3.heap.size rfl R rfl _ _ HZ3.out (by rw [HRl.out]; rfl) (info64' HRl.out) b8_one' ?_; intro w4 hp4 hg4; have HP4 := Lib.hid hp4; have HB4 := Lib.hid (show Below wr.heap.size wr w4 from (HB3.out.alloc hs3 _).grown hg4 (by simp; omega) (fun k e => by cases e; exact hs3)); have hz4 : w3.heap.size + 1 ≤ w4.heap.size := by have := hg4.size; simpa using this)
          clear hp4 hg4 HZ3 HB3
          go_ret2
          have hz : mixBad 12 m number = 8 := mixBad_late HB0.out hlt (by rw [← Hq.out, ← HNn.out]; exact hb2)
          exact ⟨_, by rw [hz]; rfl, (Own.nil_ b8 _ _ _).cast (by unfold mixV; rw [HN.out, HM.out, if_neg (by rw [hz]; simp)]), HBw.out.trans (HB4.out.mono HBw.out.size)⟩
        · have hbad2 : badP 12 N = 0 := badP_ok rfl (by omega)
          rw [hbad2] at hc
          have HC := Lib.hid hc
          have HRp := Lib.hid (show R = pieceL key nonce (BitVec.ofInt 32 N) by rw [HRr.out]; unfold pieceV; rw [HN.out, if_pos hbad2])
          clear hc hbad2
          go_wp2_with (refine wpList_load_arr rfl 39 _ rfl w.heap.size rfl _ key HK0.out _ Try.underlying39 rfl (infoKey HK.out) ?_)
          refine HC.out.mono ?_
          rintro e w3 ⟨rfl, hb3⟩
          rw [arrV_mk, show (((0 : Nat)) : Int) = 0 from rfl]
          have HZ3 := Lib.hid (Arr.new b8 w3 82 (List.replicate 64 0#8))
          have HB3 := Lib.hid hb3
          have hs3 := hb3.size
          clear hb3
          go_wp2_with (refine wpList_store_arr rfl 82 _ _ rfl w3.heap.size rfl R rfl _ _ HZ3.out (by rw [HRl.out]; rfl) (info64' HRl.out) b8_one' ?_; intro w4 hp4 hg4; have HP4 := Lib.hid hp4; have HB4 := Lib.hid (show Below wr.heap.size wr w4 from (HB3.out.alloc hs3 _).grown hg4 (by simp; omega) (fun k e => by cases e; exact hs3)); have hz4 : w3.heap.size + 1 ≤ w4.heap.size := by have := hg4.size; simpa using this)
          clear hp4 hg4 HZ3 HB3
          obtain ⟨t, htq⟩ : ∃ t, t = k % 64 := ⟨_, rfl⟩
          have ct := HP4.out.cellD (k := t) (by rw [HRl.out]; omega) 0#8
          have hl := HM.out
          obtain ⟨tb, toff, rfl, htb, htc⟩ := HT.out (by omega)
          have cx0 := htc k (text.getD k 0#8) (by simp [List.getD, List.getElem?_eq_getElem (show k < text.length by omega)])
          have hb4 : Below w.heap.size w w4 := HBw.out.trans (HB4.out.mono HBw.out.size)
          have cx := (hb4.cell (p := ⟨tb, toff + k, none⟩) (by show tb < _; omega)).trans cx0
          obtain ⟨y, hy⟩ : ∃ y, y = R.getD t 0#8 := ⟨_, rfl⟩
          obtain ⟨x, hx⟩ : ∃ x, x = text.getD k 0#8 := ⟨_, rfl⟩
          rw [← hy] at ct
          rw [← hx] at cx cx0
          have Hmix := Lib.hid (show mixAt key nonce number text k = x ^^^ y by unfold mixAt; rw [hx, hy, HRp.out, htq, ← Hq.out, ← HNn.out])
          have CX0 := Lib.hid cx0
          have O4 := Lib.hid (HO.out.below HB4.out (Nat.le_refl _))
          have hob := Lib.hid (show ∀ g, w3.heap.size = g → u12.ownBlock ≠ some g from fun g hg e => by have := (HO.out.lt g e).2; omega)
          have Hne := Lib.hid (hob.out _ rfl)
          have Hlt := Lib.hid (show w3.heap.size < w4.heap.size by omega)
          have Hvb := Lib.hid (show ∀ g, u12.ownBlock = some g → w.heap.size ≤ g from fun g hg => by have := (HO.out.lt g hg).1; have := HZ0.out; omega)
          have g64 : (t : Int) < 64 := by omega
          have hmod : (k : Int).tmod 64 = (t : Int) := by rw [Int.tmod_eq_emod_of_nonneg (by omega)]; omega
          have hwt : IntKind.i64.wrap (t : Int) = t := IntWalk.i64_in _ (by omega)
          have CT0 := Lib.hid ct
          have HB4w := Lib.hid hb4
          have hw4z : W0.heap.size ≤ w4.heap.size := Nat.le_trans hbz HB4.out.size
          have htb' : tb < w.heap.size := by omega
          simp only [b8] at ct cx
          clear cx0 hl htc hb4 hx hy htq hs3
          go_region_held3 (fun w' => w'.cell? ⟨w3.heap.size, t, none⟩ = some (.int .u8 (bv y)) ∧ w'.cell? ⟨tb, toff + k, none⟩ = some (.int .u8 (bv x)))
            (first
              | exact keepS hg7 Hne.out Hlt.out CT0.out HB4w.out Hvb.out htb' CX0.out
              | go_keep)
            ((refine step_append_rd rfl _ _ 47 (by rfl) b8_one W0.heap.size 5 i0 _ 1 Try.underlying47 hi0 hz0 hz1 hz2 rfl _ (mixTo key nonce number text k) (by rfl) (O4.out.drew.alloc _) (w4.heap.size + 1) _ 1 1 [x ^^^ y] (by rfl) rfl (Rd.new b8 _ _ [_]) (by simp [mixTo_len, maxLen]; omega) (by simp [mixTo_len]; omega) (by simp; omega) ?_; intro v7 w7 hown7 hg7 hbb7))
          all_goals
            clear hmod hwt
            go_wp2_with fail
            go_roundw
            case rel =>
              refine ⟨k + 1, by omega, by go_num, ?_, hbb7 _ _ (Nat.le_refl _) (((HB.out.trans (HB4.out.mono hbz)).drew).alloc (by show W0.heap.size ≤ w4.heap.size; omega) _), fun j hj => ?_⟩
              · rw [mixTo_succ, Hmix.out]; exact hown7
              · rcases Nat.lt_or_eq_of_le (Nat.le_of_lt_succ hj) with h | h
                · exact HAll.out j h
                · subst h; rw [← Hq.out, ← HNn.out]; omega
            case measure => simp [intOf]; omega
      · obtain rfl : k = m := by omega
        have hz : mixBad 12 k number = 0 := mixBad_none HB0.out HAll.out
        have HZ := Lib.hid hz
        clear hz
        go_wp2_with fail
        go_ret2
        exact ⟨_, by rw [HZ.out]; rfl, (HO.out.less (by rw [HZ0.out]; omega)).cast (by unfold mixV; rw [HN.out, HM.out, if_pos HZ.out]), HBw.out⟩
  · have hmb : mixBad n m number = badP n number := mixBad_first hbad
    have hmv : mixV key nonce number text = [] := by unfold mixV; rw [hn, hm, if_neg (by rw [hmb]; exact hbad)]
    obtain ⟨bad, hbd⟩ : ∃ bad, bad = badP n number := ⟨_, rfl⟩
    simp only [← hbd] at h20 hmb
    rw [← hbd] at hbad
    rw [hmb, hmv]
    have H20 := Lib.hid h20
    have hb0 : ((bad : Int) != 0) = true := by rw [bne_iff_ne]; omega
    clear hk hr hn ht hm hP h1 h2 h20 hmb hmv hbd hbad
    rw [arrV_mk]
    go_enter Try.func43, Try.ntmps43
    go_wp2_with (refine wpList_load_arr rfl 39 _ rfl w.heap.size rfl _ key HA0.out _ Try.underlying39 rfl (infoKey HK.out) ?_)
    refine (H20.out _ ((Below.refl _ _).alloc (Nat.le_refl _) _)).mono ?_
    rintro e w1 ⟨rfl, hb1⟩
    rw [arrV_mk]
    have HZ1 := Lib.hid (Arr.new b8 w1 82 (List.replicate 64 0#8))
    have HB1 := Lib.hid (show Below w.heap.size w w1 from ((Below.refl _ _).alloc (Nat.le_refl _) _).trans (hb1.mono (by simp)))
    clear hb1
    go_wp2_with (refine wpList_store_arr rfl 82 _ _ rfl w1.heap.size rfl P rfl _ _ HZ1.out (by rw [HPl.out]; rfl) (info64' HPl.out) b8_one' ?_; intro w2 hp2 hg2)
    go_ret2
    exact ⟨_, rfl, Own.nil_ b8 _ _ _, (HB1.out.alloc HB1.out.size _).grown hg2 (by have := HB1.out.size; simp; omega) (fun k e => by cases e; exact HB1.out.size)⟩
end Go.Proofs.Ytkoefhbmkmepaaa
