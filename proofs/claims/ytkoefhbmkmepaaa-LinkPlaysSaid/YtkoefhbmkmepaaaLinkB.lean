/- LinkBoth, the walk: both send at once, each takes all that the other one sent. -/
import Derived.Test.YtkoefhbmkmepaaaLnk
import Derived.Test.YtkoefhbmkmepaaaSlc
import Derived.Test.YtkoefhbmkmepaaaNum
namespace Go.Proofs.Ytkoefhbmkmepaaa
open Go.RowKit
set_option linter.unusedVariables false
set_option linter.unusedSimpArgs false

theorem msgV_len (key : List (BitVec 8)) (n : Nat) (text : List (BitVec 8)) (h : text.length ≤ 65536) : (msgV key n text).length = text.length + 20 := by
  unfold msgV
  rw [List.length_append, headV_len, sealV_len]
  · omega
  · rw [headV_len, show (nonce (BitVec.ofNat 64 n)).length = 12 by simp [nonce, le8]]; unfold sealBad; rw [if_neg (by omega)]
theorem msgV_take (key : List (BitVec 8)) (n : Nat) (text : List (BitVec 8)) : (msgV key n text).take 4 = headV n := by
  unfold msgV; exact List.take_left' (headV_len n)
theorem msgV_drop (key : List (BitVec 8)) (n : Nat) (text : List (BitVec 8)) : (msgV key n text).drop 4 = sealV key (nonce (BitVec.ofNat 64 n)) (headV n) text := by
  unfold msgV; exact List.drop_left' (headV_len n)
theorem ltake_msg (w : World) (g : Nat) (t : Bool) (h : Int) (s : BitVec 64) (sk rk : List (BitVec 8)) (nx : Int) (hx : LinkAt w g t h s sk rk nx) (hh : t = true → 0 ≤ h ∧ h < 4294967295) (k : Nat) (hk : k < 4294967296) (M : Option Addr) (L m d B : Nat) (text : List (BitVec 8)) (hr : Rd b8 w B M (msgV rk k text)) (hB : B ≤ w.heap.size) (hm : text.length = m) (hm2 : m ≤ 65536) (hL : L = m + 20) (hLd : L ≤ d) (hd : d ≤ maxLen) :
    Calls Try.prog 19 #[.pointer (some ⟨g, 0, none⟩), .slice M L d] w fun e w' =>
      (winCheck t h s (k : Int) ≠ 0 → e = .returned (.tuple #[.slice none 0 0, errV (winCheck t h s (k : Int))]) ∧ w' = w) ∧
      (winCheck t h s (k : Int) = 0 → ∃ v, e = .returned (.tuple #[v, .nilIface]) ∧ Own b8 w' w.heap.size 5 v text ∧ LinkAt w' g (winMark t h s k).1 (winMark t h s k).2.1 (winMark t h s k).2.2 sk rk nx ∧ w.grownBy w' (some g)) := by
  have hs : sealBad (nonce (BitVec.ofNat 64 k)).length (headV k).length text.length = 0 := by
    rw [headV_len, show (nonce (BitVec.ofNat 64 k)).length = 12 by simp [nonce, le8]]; unfold sealBad; rw [if_neg (by omega)]
  have ho := open_seal rk (nonce (BitVec.ofNat 64 k)) (headV k) text hs
  have q := ltake_any w g t h s sk rk nx hx hh M L d B (msgV rk k text) hr hB (by rw [msgV_len _ _ _ (by omega)]; omega) (by omega) (by omega) hLd hd k (by rw [msgV_take, headN_headV _ hk]) (by rw [msgV_take, msgV_drop]; exact ho.1)
  rw [msgV_take, msgV_drop, ho.2] at q
  exact q
/-- a window that has taken all numbers below k, in order -/
def NextAt (k : Nat) (t : Bool) (h : Int) : Prop := (t = false ∧ k = 0) ∨ (t = true ∧ 0 < k ∧ h = (k : Int) - 1)
theorem NextAt.check {k : Nat} {t : Bool} {h : Int} (x : NextAt k t h) (s : BitVec 64) (hk : k < 4294967295) : winCheck t h s (k : Int) = 0 := by
  unfold winCheck
  rw [if_neg (by omega)]
  rcases x with ⟨rfl, rfl⟩ | ⟨rfl, h0, rfl⟩
  · simp
  · rw [if_pos (.inr (by omega))]
theorem NextAt.mark {k : Nat} {t : Bool} {h : Int} (x : NextAt k t h) (s : BitVec 64) : NextAt (k + 1) (winMark t h s (k : Int)).1 (winMark t h s (k : Int)).2.1 := by
  unfold winMark
  rcases x with ⟨rfl, rfl⟩ | ⟨rfl, h0, rfl⟩
  · exact .inr ⟨rfl, by omega, by simp⟩
  · rw [if_neg (by simp), if_neg (by omega)]
    exact .inr ⟨rfl, by omega, by simp⟩
theorem NextAt.bound {k : Nat} {t : Bool} {h : Int} (x : NextAt k t h) (hk : k < 4294967295) : t = true → 0 ≤ h ∧ h < 4294967295 := fun ht => by
  rcases x with ⟨rfl, rfl⟩ | ⟨rfl, h0, rfl⟩
  · cases ht
  · omega
theorem NextAt.hi {k : Nat} {t : Bool} {h : Int} (x : NextAt k t h) : (if t = true then h else -1) = (k : Int) - 1 := by
  rcases x with ⟨rfl, rfl⟩ | ⟨rfl, h0, rfl⟩
  · rfl
  · rfl

set_option maxRecDepth 100000 in
set_option maxHeartbeats 2000000 in
theorem linkBoth_walk (ka : List (BitVec 8)) (hka : ka.length = 32) (kb : List (BitVec 8)) (hkb : kb.length = 32) (A : Option Addr) (n c : Nat) (ps : List Pt) {W : World} (hr : Rd sl W W.heap.size A (ps.map (·.1))) (hp : ∀ u ∈ ps, Rd b8 W W.heap.size u.1.1 u.2 ∧ u.1.2.1 = u.2.length) (hn : ps.length = n) (hc : n ≤ c) (hm : c ≤ maxLen) :
    Calls Try.prog 5 #[.agg (ka.map b8).toArray, .agg (kb.map b8).toArray, .slice A n c] W fun e w' => e = .returned (.bool true) ∧ Below W.heap.size W w' := by
  obtain ⟨i0, hi0, hz0, hz1, hz2⟩ := info_parts infoU8
  have HKa := Lib.hid hka
  have HKb := Lib.hid hkb
  have HR := Lib.hid hr
  have HP := Lib.hid hp
  have HN := Lib.hid hn
  have HA := Lib.hid ((Arr.new b8 W 39 ka).alloc (.cells (kb.map b8).toArray 39))
  have HB := Lib.hid (show Arr b8 ((W.alloc (.cells (ka.map b8).toArray 39)).alloc (.cells (kb.map b8).toArray 39)) (W.heap.size + 1) 39 kb from Arr.at_size b8 _ kb (by simp))
  have HB0 := Lib.hid (show Below W.heap.size W ((W.alloc (.cells (ka.map b8).toArray 39)).alloc (.cells (kb.map b8).toArray 39)) by (repeat' (first | assumption | exact Below.refl _ _ | refine Below.drew ?_ | refine Below.alloc ?_ ?_ _ | omega | (simp; done) | (simp; omega))))
  have hzz : ((W.alloc (.cells (ka.map b8).toArray 39)).alloc (.cells (kb.map b8).toArray 39)).heap.size = W.heap.size + 2 := by simp
  clear hka hkb hr hp hn hc hm
  by_cases k1 : (n : Int) > 40
  ·
    go_enter Try.func5, Try.ntmps5
    go_wp2_with fail
    generalize hW0 : World.alloc (World.alloc W _) _ = W0 at HA HB HB0 hzz ⊢
    clear hW0
    refine (alive12_any _).mono ?_
    rintro e w1 ⟨rfl, hb1⟩
    have hs1 := hb1.size
    have HA1 := Lib.hid (HA.out.below hb1 (by omega))
    have HB1 := Lib.hid (HB.out.below hb1 (by omega))
    have HY1 := Lib.hid (HB0.out.trans (hb1.mono (by omega)))
    clear hb1 HA HB HB0
    go_wp2_with fail
    go_ret
    exact ⟨rfl, HY1.out⟩
  obtain ⟨Za, hZa⟩ : ∃ Z, Z = ka.map b8 := ⟨_, rfl⟩
  obtain ⟨Zb, hZb⟩ : ∃ Z, Z = kb.map b8 := ⟨_, rfl⟩
  have hZal : Za.length = 32 := by rw [hZa, List.length_map, HKa.out]
  have hZbl : Zb.length = 32 := by rw [hZb, List.length_map, HKb.out]
  have hu := Try.underlying39
  have hia : (Try.prog.info? 39).map (·.size) = some Za.length := by rw [hZal]; exact size32k
  have hib : (Try.prog.info? 39).map (·.size) = some Zb.length := by rw [hZbl]; exact size32k
  have HN1 := Lib.hid (show ∀ W' : World, Calls Try.prog 17 #[.agg Za.toArray, .agg Zb.toArray] W' fun e w' => ∃ g, e = .returned (.pointer (some ⟨g, 0, none⟩)) ∧ W'.heap.size ≤ g ∧ LinkAt w' g false 0 0#64 ka kb 0 ∧ Below W'.heap.size W' w' from fun W' => by rw [hZa, hZb]; exact lnew_any W' ka kb HKa.out HKb.out)
  have HN2 := Lib.hid (show ∀ W' : World, Calls Try.prog 17 #[.agg Zb.toArray, .agg Za.toArray] W' fun e w' => ∃ g, e = .returned (.pointer (some ⟨g, 0, none⟩)) ∧ W'.heap.size ≤ g ∧ LinkAt w' g false 0 0#64 kb ka 0 ∧ Below W'.heap.size W' w' from fun W' => by rw [hZa, hZb]; exact lnew_any W' kb ka HKb.out HKa.out)
  go_enter Try.func5, Try.ntmps5
  go_wp2_with fail
  generalize hW0 : World.alloc (World.alloc W _) _ = W0 at HA HB HB0 hzz ⊢
  clear hW0
  refine (alive12_any _).mono ?_
  rintro e w1 ⟨rfl, hb1⟩
  have hs1 := hb1.size
  have HA1 := Lib.hid (HA.out.below hb1 (by omega))
  have HB1 := Lib.hid (HB.out.below hb1 (by omega))
  have HY1 := Lib.hid (HB0.out.trans (hb1.mono (by omega)))
  clear hb1 HA HB HB0
  have HKeep := Lib.hid (show ∀ W', Below w1.heap.size w1 W' → W'.rangeAt W.heap.size 0 Za ∧ W'.rangeAt (W.heap.size + 1) 0 Zb from fun W' hb => by rw [hZa, hZb]; exact ⟨(HA1.out.below hb (by omega)).whole, (HB1.out.below hb (by omega)).whole⟩)
  have hk1 := HKeep.out _ (Below.refl _ w1).drew
  clear hZa hZb hZal hZbl
  go_wp2_with fail
  --{R5
  refine wp_region_noPanic ?_
  refine wp_region_held_drew (S := fun w' => w'.rangeAt W.heap.size 0 Za ∧ w'.rangeAt (W.heap.size + 1) 0 Zb) (by kernel_rfl) hk1 (fun hS => ?_)
  refine wpAnyH_take (i := 0) (oi := { dst := some 22, op := _, type := _, pos := _, after := _, guard := _ }) (v := .agg Za.toArray) rfl (by kernel_rfl) (by kernel_rfl) (by kernel_rfl) (fun _ _ _ h => h) (yieldsIf_load_mid (by rfl) 39 (.tmp 3) rfl W.heap.size 0 rfl Za _ (fun _ h => h.1) hu rfl hia) hS ?_
  try simp only [Act.put, List.setIfInBounds_toArray, List.set_cons_zero, List.set_cons_succ]
  refine wpAnyH_take (i := 1) (oi := { dst := some 23, op := _, type := _, pos := _, after := _, guard := _ }) (v := .agg Zb.toArray) rfl (by kernel_rfl) (by kernel_rfl) (by kernel_rfl) (fun _ _ _ h => h) (yieldsIf_load_mid (by rfl) 39 (.tmp 4) rfl (W.heap.size + 1) 0 rfl Zb _ (fun _ h => h.2) hu rfl hib) hS ?_
  try simp only [Act.put, List.setIfInBounds_toArray, List.set_cons_zero, List.set_cons_succ]
  refine wpAnyH_take (i := 3) (oi := { dst := some 25, op := _, type := _, pos := _, after := _, guard := _ }) (v := .agg Zb.toArray) rfl (by kernel_rfl) (by kernel_rfl) (by kernel_rfl) (fun _ _ _ h => h) (yieldsIf_load_mid (by rfl) 39 (.tmp 4) rfl (W.heap.size + 1) 0 rfl Zb _ (fun _ h => h.2) hu rfl hib) hS ?_
  try simp only [Act.put, List.setIfInBounds_toArray, List.set_cons_zero, List.set_cons_succ]
  refine wpAnyH_take (i := 4) (oi := { dst := some 26, op := _, type := _, pos := _, after := _, guard := _ }) (v := .agg Za.toArray) rfl (by kernel_rfl) (by kernel_rfl) (by kernel_rfl) (fun _ _ _ h => h) (yieldsIf_load_mid (by rfl) 39 (.tmp 3) rfl W.heap.size 0 rfl Za _ (fun _ h => h.1) hu rfl hia) hS ?_
  try simp only [Act.put, List.setIfInBounds_toArray, List.set_cons_zero, List.set_cons_succ]
  refine wpAnyH_ready (rs := [2]) (by kernel_rfl) (by simp) (AllReadyH.cons (o := { dst := some 24, op := _, type := _, pos := _, after := _, guard := _ }) rfl (fun K' hK => ?_) AllReadyH.nil)
  go_simp
  go_at_call 17
  refine (HN1.out _).mono ?_
  rintro e w2 ⟨gx, rfl, hgx, hx2, hb2⟩
  have HX2 := Lib.hid hx2
  have HQ2 := Lib.hid (show Below w1.heap.size w1 w2 from (Below.refl _ w1).drew.trans hb2)
  have hs2 := HX2.out.lt
  have hgx1 : w1.heap.size ≤ gx := hgx
  clear hx2 hb2 hgx
  refine hK.out _ _ (HKeep.out _ (HQ2.out)) (fun hS => ?_)
  clear hK K'
  try simp only [Act.put, List.setIfInBounds_toArray, List.set_cons_zero, List.set_cons_succ]
  refine wpAnyH_ready (rs := [5]) (by kernel_rfl) (by simp) (AllReadyH.cons (o := { dst := some 27, op := _, type := _, pos := _, after := _, guard := _ }) rfl (fun K' hK => ?_) AllReadyH.nil)
  go_simp
  go_at_call 17
  refine (HN2.out _).mono ?_
  rintro e w3 ⟨gy, rfl, hgy, hy3, hb3⟩
  have HY3 := Lib.hid hy3
  have HX3 := Lib.hid (HX2.out.below hb3 hs2)
  have HQ3 := Lib.hid (HQ2.out.trans (hb3.mono HQ2.out.size))
  have hs3 := HY3.out.lt
  clear hy3 hb3
  refine hK.out _ _ (HKeep.out _ (HQ3.out)) (fun hS => ?_)
  clear hK K'
  try simp only [Act.put, List.setIfInBounds_toArray, List.set_cons_zero, List.set_cons_succ]
  refine wpAnyH_ready (rs := [6]) (by kernel_rfl) (by simp) (AllReadyH.cons (o := { dst := some 7, op := _, type := _, pos := _, after := _, guard := _ }) rfl (fun K' hK => ?_) AllReadyH.nil)
  go_simp
  refine hK.out _ _ (HKeep.out _ (HQ3.out)) (fun hS => ?_)
  clear hK K'
  try simp only [Act.put, List.setIfInBounds_toArray, List.set_cons_zero, List.set_cons_succ]
  refine wpAnyH_ready (rs := [7]) (by kernel_rfl) (by simp) (AllReadyH.cons (o := { dst := some 8, op := _, type := _, pos := _, after := _, guard := _ }) rfl (fun K' hK => ?_) AllReadyH.nil)
  go_simp
  refine hK.out _ _ (HKeep.out _ (HQ3.out)) (fun hS => ?_)
  clear hK K'
  try simp only [Act.put, List.setIfInBounds_toArray, List.set_cons_zero, List.set_cons_succ]
  refine wpAnyH_done (by kernel_rfl) ?_ _
  refine NoPanic.normal ?_
  --}R5
  have hgy1 : gx < gy := by omega
  have hQ3 := HY1.out.trans (HQ3.out.mono (by omega))
  have HP3 := Lib.hid hQ3
  clear hQ3 HX2 HQ2 HQ3 HA1 HB1 HKeep hk1
  have hn40 : n ≤ 40 := by omega
  have hgyW : W.heap.size ≤ gx := by omega
  go_wp2_with fail
  go_loopw [30] (fun i wr => ∃ (k : Nat) (t : Bool) (h : Int) (s : BitVec 64) (t2 : Bool) (h2 : Int) (s2 : BitVec 64), k ≤ n ∧ i = .int .i64 (k : Int) ∧ LinkAt wr gx t h s ka kb (k : Int) ∧ LinkAt wr gy t2 h2 s2 kb ka (k : Int) ∧ NextAt k t h ∧ NextAt k t2 h2 ∧ Below W.heap.size W wr) (fun i _ => n - (intOf i).toNat)
  case atStart => exact ⟨0, false, 0, 0#64, false, 0, 0#64, by omega, rfl, HX3.out, HY3.out, .inl ⟨rfl, rfl⟩, .inl ⟨rfl, rfl⟩, HP3.out⟩
  case round =>
    clear HX3 HY3 HP3
    obtain ⟨k, t, h, s, t2, h2, s2, hk, rfl, hx, hy, hn1, hn2, hb⟩ := hrel
    have HX := Lib.hid hx
    have HY := Lib.hid hy
    have HN1x := Lib.hid hn1
    have HN2x := Lib.hid hn2
    have HW := Lib.hid hb
    have hzW := hb.size
    have hlx := hx.lt
    have hly := hy.lt
    clear hx hy hn1 hn2 hb
    by_cases hlt : k < n
    · have hk' : k < ps.length := by rw [HN.out]; exact hlt
      obtain ⟨⟨⟨A', m, cc⟩, ys⟩, hu⟩ : ∃ u, ps[k] = u := ⟨_, rfl⟩
      have h1 := HR.out.at_ (k := k) (by rw [List.length_map]; exact hk')
      rw [List.getElem_map, hu] at h1
      obtain ⟨b0, off0, rfl, hb0, c0⟩ := h1
      have c0' : wr.cell? ⟨b0, off0 + k, none⟩ = some (.slice A' m cc) := (HW.out.cell (p := ⟨b0, off0 + k, none⟩) hb0).trans c0
      have h2' := HP.out _ (List.getElem_mem hk')
      rw [hu] at h2'
      simp only at h2'
      have HT := Lib.hid h2'.1
      have HTl := Lib.hid h2'.2
      clear h2' c0 hu
      by_cases hm300 : (m : Int) > 300
      · go_wp2_with fail
        go_ret
        exact ⟨rfl, HW.out⟩
      have hmb : m ≤ 300 := by omega
      have hSx := Lib.hid (lsend_any wr gx t h s ka kb k HX.out (by omega) A' m cc W.heap.size ys (HT.out.below HW.out) hzW HTl.out.symm (by omega))
      go_wp2_with fail
      refine hSx.out.mono ?_
      rintro e w4 ⟨v4, rfl, ho4, hx4, hg4⟩
      obtain ⟨L, hL⟩ : ∃ L, L = m + 20 := ⟨_, rfl⟩
      obtain ⟨A4, c4, rfl, hr4, -, hc4, hc4'⟩ := ho4.shape' (n := L) (by rw [msgV_len _ _ _ (by rw [← HTl.out]; omega), ← HTl.out]; exact hL.symm)
      have hz4 := hg4.size
      have HB4 := Lib.hid (HW.out.grown hg4 (by omega) (fun q e => by cases e; exact hgyW))
      have HX4 := Lib.hid hx4
      have HY4 := Lib.hid (HY.out.grown hg4 (by simp; omega))
      have HO4 := Lib.hid ho4
      clear ho4 hx4 hg4 hr4 hSx
      have HL := Lib.hid hL
      have hLb : L ≤ 320 := by omega
      clear hL
      have HE5 := Lib.hid (Own.lit b8 w4 w4.heap.size 5 [1#8] (Nat.le_refl _) (by simp [maxLen]))
      have HZ5 := Lib.hid (show Below w4.heap.size w4 (w4.alloc (.cells ([1#8].map b8).toArray 5)) from (Below.refl _ _).alloc (Nat.le_refl _) _)
      go_wp2_with (first
        | (at_builtin; refine wpList_append_rd rfl (.tmp 45) (.tmp 46) 47 rfl b8_one w4.heap.size 5 i0 _ 1 Try.underlying47 hi0 hz0 hz1 hz2 rfl _ _ rfl HE5.out W.heap.size A' m cc ys rfl HTl.out ((HT.out.below HB4.out).below (HZ5.out.mono HB4.out.size)) (by have := HTl.out; simp [maxLen]; omega) (by have := HTl.out; simp; omega) (by simp) ?_; intro v5 w5 hown5 hg5 hbb5; have HB45 := Lib.hid (hbb5 _ _ (Nat.le_refl _) HZ5.out); obtain ⟨A5, c5, rfl, hr5, -, -, -⟩ := hown5.shape' (n := m + 1) (by have := HTl.out; simp; omega); have HR5 := Lib.hid hr5; clear hown5 hg5 hbb5 hr5))
      have hz5 := HB45.out.size
      obtain ⟨m1, hm1⟩ : ∃ m1, m + 1 = m1 := ⟨_, rfl⟩
      rw [hm1]
      have hm1b : m1 ≤ 301 := by omega
      have HM1 := Lib.hid hm1
      have HT1l := Lib.hid (show ([1#8] ++ ys).length = m1 by have := HTl.out; simp; omega)
      have HY5 := Lib.hid (HY4.out.below HB45.out (by omega))
      have HX5 := Lib.hid (HX4.out.below HB45.out (by omega))
      have HO5 := Lib.hid (HO4.out.below HB45.out (Nat.le_refl _))
      have HB5 := Lib.hid (HB4.out.trans (HB45.out.mono HB4.out.size))
      have hSy := Lib.hid (lsend_any w5 gy t2 h2 s2 kb ka k HY5.out (by omega) A5 m1 c5 w5.heap.size ([1#8] ++ ys) HR5.out (Nat.le_refl _) HT1l.out (by omega))
      clear HO4 HY4 HX4 HB4 HE5 HZ5 hm1
      refine hSy.out.mono ?_
      rintro e w6 ⟨v6, rfl, ho6, hy6, hg6⟩
      obtain ⟨L1, hL1⟩ : ∃ L1, L1 = m1 + 20 := ⟨_, rfl⟩
      have HL1 := Lib.hid hL1
      obtain ⟨A6, c6, rfl, -, -, hc6, hc6'⟩ := ho6.shape' (n := L1) (by rw [msgV_len _ _ _ (by rw [HT1l.out]; omega), HT1l.out]; exact HL1.out.symm)
      have hL1b : L1 ≤ 321 := by omega
      clear hL1
      have hz6 := hg6.size
      have HB6 := Lib.hid (HB5.out.grown hg6 (by omega) (fun q e => by cases e; omega))
      have HX6 := Lib.hid (HX5.out.grown hg6 (by simp; omega))
      have HO46 := Lib.hid (HO5.out.kept hg6 (.inr (fun e => by have := HO5.out.lt gy e; omega)))
      have HO6 := Lib.hid ho6
      have HY6 := Lib.hid hy6
      clear ho6 hy6 hg6 hSy HO5 HX5 HY5 HB5
      have hTy := Lib.hid (ltake_msg w6 gy t2 h2 s2 kb ka _ HY6.out (HN2x.out.bound (by omega)) k (by omega) A4 L m c4 w6.heap.size ys HO46.out.rd (Nat.le_refl _) HTl.out.symm (by omega) HL.out hc4 hc4')
      go_wp2_with fail
      refine hTy.out.mono ?_
      rintro e w7 ⟨-, hq⟩
      obtain ⟨v7, rfl, ho7, hy7, hg7⟩ := hq (HN2x.out.check s2 (by omega))
      obtain ⟨A7, c7, rfl, -, -, -, -⟩ := ho7.shape' (n := m) HTl.out.symm
      have hz7 := hg7.size
      have HB7 := Lib.hid (HB6.out.grown hg7 (by omega) (fun q e => by cases e; omega))
      have HX7 := Lib.hid (HX6.out.grown hg7 (by simp; omega))
      have HO67 := Lib.hid (HO6.out.kept hg7 (.inr (fun e => by have := HO6.out.lt gy e; omega)))
      have HO7 := Lib.hid ho7
      have HY7 := Lib.hid hy7
      clear hq ho7 hy7 hg7 hTy HO46 HO6 HX6 HY6 HB6
      have hTx := Lib.hid (ltake_msg w7 gx t h s ka kb _ HX7.out (HN1x.out.bound (by omega)) k (by omega) A6 L1 m1 c6 w7.heap.size ([1#8] ++ ys) HO67.out.rd (Nat.le_refl _) HT1l.out (by omega) HL1.out hc6 hc6')
      go_wp2_with fail
      refine hTx.out.mono ?_
      rintro e w8 ⟨-, hq⟩
      obtain ⟨v8, rfl, ho8, hx8, hg8⟩ := hq (HN1x.out.check s (by omega))
      obtain ⟨A8, c8, rfl, -, -, -, -⟩ := ho8.shape' (n := m1) HT1l.out
      have hz8 := hg8.size
      have HB8 := Lib.hid (HB7.out.grown hg8 (by omega) (fun q e => by cases e; omega))
      have HY8 := Lib.hid (HY7.out.grown hg8 (by simp; omega))
      have HX8 := Lib.hid hx8
      have HO8 := Lib.hid (HO7.out.kept hg8 (.inr (fun e => by have := HO7.out.lt gx e; omega)))
      clear hq ho8 hx8 hg8 hTx HO67 HO7 HX7 HY7 HB7
      have hSm := Lib.hid (show Calls Try.prog 20 #[.slice A7 m c7, .slice A' m cc] w8 fun e w' => e = .returned (.bool true) ∧ w8 = w' from by
        have := same_any c7 cc HO8.out.rd (HT.out.below HB8.out) HTl.out.symm HTl.out.symm
        rwa [show (ys == ys) = true by simp] at this)
      have hm1i : (m : Int) + 1 = (m1 : Int) := by have := HM1.out; omega
      go_wp2_with (go_at_call 20; refine hSm.out.mono ?_; rintro e w' ⟨rfl, rfl⟩)
      go_roundw
      case rel =>
        have e1 : ((k + 1 : Nat) : Int) = (k : Int) + 1 := by omega
        refine ⟨k + 1, (winMark t h s k).1, (winMark t h s k).2.1, (winMark t h s k).2.2, (winMark t2 h2 s2 k).1, (winMark t2 h2 s2 k).2.1, (winMark t2 h2 s2 k).2.2, by omega, by go_num, ?_, ?_, HN1x.out.mark s, HN2x.out.mark s2, HB8.out⟩
        · rw [e1]; exact HX8.out
        · rw [e1]; exact HY8.out
      case measure => simp [intOf]; omega
    · obtain rfl : k = n := by omega
      have hNx := Lib.hid (lnext_any wr gx t h s ka kb _ HX.out)
      have hHy := lhighest_any wr gy t2 h2 s2 kb ka _ HY.out
      have hHx := lhighest_any wr gx t h s ka kb _ HX.out
      rw [HN1x.out.hi] at hHx
      rw [HN2x.out.hi] at hHy
      have HHx := Lib.hid hHx
      have HHy := Lib.hid hHy
      clear hHx hHy
      go_wp2_with (first
        | (go_at_call 21; refine hNx.out.mono ?_; rintro e w' ⟨rfl, rfl⟩)
        | (go_at_call 22; refine HHy.out.mono ?_; rintro e w' ⟨rfl, rfl⟩)
        | (go_at_call 22; refine HHx.out.mono ?_; rintro e w' ⟨rfl, rfl⟩))
      go_ret
      exact ⟨rfl, HW.out⟩
end Go.Proofs.Ytkoefhbmkmepaaa
