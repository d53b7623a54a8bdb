/- CONTRACTS: link.Send, Take, Jump on a link, at every argument. -/
import Derived.Test.YtkoefhbmkmepaaaLnk
namespace Go.Proofs.Ytkoefhbmkmepaaa
open Go.RowKit
set_option linter.unusedVariables false
set_option linter.unusedSimpArgs false

set_option maxRecDepth 100000 in
set_option maxHeartbeats 1000000 in
theorem ltake_no (w : World) (g : Nat) (t : Bool) (h : Int) (s : BitVec 64) (sk rk : List (BitVec 8)) (nx : Int) (hx : LinkAt w g t h s sk rk nx) (hh : t = true → 0 ≤ h ∧ h < 4294967295) (M : Option Addr) (L d B : Nat) (X : List (BitVec 8)) (hr : Rd b8 w B M X) (hB : B ≤ w.heap.size) (hL : X.length = L) (hL1 : 20 ≤ L) (hL2 : L ≤ 65556) (hLd : L ≤ d) (hd : d ≤ maxLen) (n : Nat) (hn : headN (X.take 4) = n)
    (ob : Nat) (hop : openBad rk (nonce (BitVec.ofNat 64 n)) (X.take 4) (X.drop 4) = ob) (hob : ob ≠ 0) :
    Calls Try.prog 19 #[.pointer (some ⟨g, 0, none⟩), .slice M L d] w fun e w' =>
      (winCheck t h s (n : Int) ≠ 0 → e = .returned (.tuple #[.slice none 0 0, errV (winCheck t h s (n : Int))]) ∧ w' = w) ∧
      (winCheck t h s (n : Int) = 0 → e = .returned (.tuple #[.slice none 0 0, errV ob]) ∧ Below w.heap.size w w') := by
  obtain ⟨b, off, rfl, hbB, -⟩ := hr.at_ (k := 0) (by omega)
  have HX := Lib.hid hx
  have HL := Lib.hid hL
  have HR := Lib.hid (hr.more hB)
  have HN := Lib.hid hn
  have HOp := Lib.hid hop
  have hlt := hx.lt
  have hRl := hx.rl
  have HRl := Lib.hid hRl
  have h1i : ¬ ((L : Int) < 20) := by omega
  have h2i : ¬ ((L : Int) > 65556) := by omega
  have h4d : 4 ≤ d := by omega
  have h4L : 4 ≤ L := by omega
  have h4di : (4 : Int) ≤ (d : Int) := by omega
  have h4Li : (4 : Int) ≤ (L : Int) := by omega
  have hLdi : (L : Int) ≤ (d : Int) := by omega
  have hc := wcheck_any g t h s (n : Int) w hx.win hh
  have HC := Lib.hid hc
  have hnb := headN_lt (X.take 4)
  rw [hn] at hnb
  clear hx hr hB hL hn hop hRl hc
  go_enter Try.func19, Try.ntmps19
  go_wp2_with fail
  go_loop [6, 29] (fun v i => ∃ k : Nat, k ≤ 4 ∧ i = .int .i64 (k : Int) ∧ v = .int .i64 (headP X k : Nat)) (fun _ i => 4 - (intOf i).toNat)
  case atStart => exact ⟨0, by omega, rfl, rfl⟩
  case round =>
    obtain ⟨k, hk, rfl, rfl⟩ := hrel
    have hpl := headP_lt X k
    by_cases hlt4 : k < 4
    · obtain ⟨b', off', e', -, hcell⟩ := HR.out.at_ (k := k) (by rw [HL.out]; omega)
      cases e'
      have hps : headP X (k + 1) = headP X k * 256 + (X.getD k 0#8).toNat := rfl
      obtain ⟨x, hx⟩ : ∃ x, x = X.getD k 0#8 := ⟨_, rfl⟩
      rw [show X[k]'(by rw [HL.out]; omega) = x by rw [hx]; simp [List.getD, show k < X.length by rw [HL.out]; omega]] at hcell
      rw [← hx] at hps
      have hcell' : w.cell? ⟨b, off + k, none⟩ = some (.int .u8 (bv x)) := hcell
      have hpb : headP X k < 16777216 := by
        refine Nat.lt_of_lt_of_le hpl ?_
        rw [show 16777216 = 256 ^ 3 from rfl]
        exact Nat.pow_le_pow_right (by omega) (by omega)
      obtain ⟨p, hp⟩ : ∃ p, p = headP X k := ⟨_, rfl⟩
      rw [← hp] at hps hpb ⊢
      have HPs := Lib.hid hps
      have hxl := x.isLt
      have hor := or_i64 p x.toNat hpb hxl
      clear hcell hpl hps hp hx
      go_wp2_with fail
      refine ⟨⟨k + 1, by omega, by simp, ?_⟩, by simp [intOf]; omega⟩
      rw [HPs.out, ← hor, Int.natCast_mul]
      rfl
    · obtain rfl : k = 4 := by omega
      have hp4 : headP X 4 = n := by rw [headP_4 X (by rw [HL.out]; omega)]; exact HN.out
      rw [hp4]
      clear hpl hp4
      go_wp2_with fail
      refine HC.out.mono ?_
      rintro e w' ⟨rfl, rfl⟩
      by_cases hw0 : winCheck t h s (n : Int) = 0
      · rw [hw0, errV_zero]
        have HW0 := Lib.hid hw0
        obtain ⟨K, hK⟩ : ∃ K, L - 4 = K := ⟨_, rfl⟩
        have hKb : K ≤ 65552 := by omega
        have hKd : K ≤ d - 4 := by omega
        have hd4 : ¬ (d = 4) := by omega
        obtain ⟨Z, hZ⟩ : ∃ Z, Z = rk.map b8 := ⟨_, rfl⟩
        have hZl : Z.length = 32 := by rw [hZ, List.length_map, HRl.out]
        have hu := Try.underlying39
        have hi32 : (Try.prog.info? 39).map (·.size) = some Z.length := by rw [hZl]; exact size32k
        have HKeep := Lib.hid (show ∀ W', Below w.heap.size w W' → W'.rangeAt g 35 Z from fun W' hb => by rw [hZ]; exact (HX.out.below hb hlt).kr)
        have hk1 := HKeep.out _ (Below.refl _ w).drew
        have H4 := Lib.hid (show Rd b8 w w.heap.size (some ⟨b, off + 4, none⟩) (X.drop 4) by
          have hq := HR.out.drop 4
          rw [Option.map_some] at hq
          have eA : (Addr.mk b off none).add 4 = ⟨b, off + 4, none⟩ := by simp [Addr.add]
          rwa [eA] at hq)
        have HO := Lib.hid (show ∀ (W' : World) (A2 : Option Addr) (c2 : Nat), Below w.heap.size w W' → Rd b8 W' W'.heap.size A2 (nonce (BitVec.ofNat 64 n)) → 12 ≤ c2 → Calls Try.prog 33 #[.agg Z.toArray, .slice A2 12 c2, .slice (some ⟨b, off, none⟩) 4 d, .slice (some ⟨b, off + 4, none⟩) K (d - 4)] W' fun e w' => ∃ v, e = .returned (.tuple #[v, .iface 36 (.int .i64 (ob : Int))]) ∧ Own b8 w' W'.heap.size 5 v (openV rk (nonce (BitVec.ofNat 64 n)) (X.take 4) (X.drop 4)) ∧ Below W'.heap.size W' w' from fun W' A2 c2 hb h2 hc2 => by
          have hq := open_any W' rk HRl.out A2 (some ⟨b, off, none⟩) (some ⟨b, off + 4, none⟩) 12 c2 4 d K (d - 4) _ _ _ (nonce (BitVec.ofNat 64 n)) (X.take 4) (X.drop 4) h2 (Nat.le_refl _) (by simp [nonce, le8]) hc2 ((HR.out.take 4).below hb) hb.size (by rw [List.length_take, HL.out]; omega) (H4.out.below hb) hb.size (by rw [List.length_drop, HL.out]; exact hK) hKd (by omega)
          rw [HOp.out, errV_pos hob, arrV_mk, ← hZ] at hq
          exact hq)
        have HNn := Lib.hid (show ∀ W' : World, Calls Try.prog 31 #[.int .i64 (n : Int)] W' fun e w' => ∃ v, e = .returned v ∧ Own b8 w' W'.heap.size 5 v (nonce (BitVec.ofNat 64 n)) ∧ Below W'.heap.size W' w' from fun W' => by
          have hq := nonce_any (n : Int) W'
          rwa [show BitVec.ofInt 64 (n : Int) = BitVec.ofNat 64 n by simp] at hq)
        clear hw0 hZ hZl
        go_wp2_with fail
        go_region_held3 (fun w' => w'.rangeAt g 35 Z)
          (first
            | exact HKeep.out _ HX3.out
            | exact HKeep.out _ HX2.out
            | exact hk1
            | go_keep)
          (first
            | (go_simp; go_at_call 31; refine (HNn.out _).mono ?_; rintro e w2 ⟨v2, rfl, ho2, hb2⟩; obtain ⟨A2, c2, rfl, hr2, -, hc2, -⟩ := ho2.shape' (n := 12) (by simp [nonce, le8]); have HX2 := Lib.hid (show Below w.heap.size w w2 from (Below.refl _ w).drew.trans hb2); have HR2 := Lib.hid hr2; clear ho2 hb2 hr2)
            | (go_simp; go_at_call 33; refine (HO.out w2 A2 c2 HX2.out HR2.out hc2).mono ?_; rintro e w3 ⟨v3, rfl, ho3, hb3⟩; have HX3 := Lib.hid (show Below w.heap.size w w3 from HX2.out.trans (hb3.mono HX2.out.size)); have HO3 := Lib.hid ho3; clear ho3 hb3))
        go_wp2_with fail
        go_ret2
        refine ⟨fun h0 => absurd HW0.out h0, fun _ => ⟨?_, HX3.out⟩⟩
        rw [errV_pos hob]
        rfl
      · have HW0 := Lib.hid hw0
        have hep := errV_pos hw0
        rw [hep]
        clear hep hw0
        go_wp2_with fail
        go_ret2
        refine ⟨fun _ => ⟨?_, rfl⟩, fun h0 => absurd h0 HW0.out⟩
        rw [errV_pos HW0.out]
        rfl

/-- what Send's error is -/
def lsBad (m nx : Nat) : Nat := if 65536 < m then 1 else if 4294967295 ≤ nx then 8 else 0
set_option maxRecDepth 100000 in
theorem lsendG_any (w : World) (g : Nat) (t : Bool) (h : Int) (s : BitVec 64) (sk rk : List (BitVec 8)) (nx : Nat) (hx : LinkAt w g t h s sk rk (nx : Int)) (T : Option Addr) (m d B : Nat) (text : List (BitVec 8)) (hr : Rd b8 w B T text) (hB : B ≤ w.heap.size) (hm : text.length = m) :
    Calls Try.prog 18 #[.pointer (some ⟨g, 0, none⟩), .slice T m d] w fun e w' => ∃ v, e = .returned (.tuple #[v, errV (lsBad m nx)]) ∧ Own b8 w' w.heap.size 5 v (if lsBad m nx = 0 then msgV sk nx text else []) ∧ LinkAt w' g t h s sk rk (if lsBad m nx = 0 then (nx : Int) + 1 else nx) ∧ w.grownBy w' (some g) := by
  by_cases h1 : (m : Int) > 65536
  · have e : lsBad m nx = 1 := by unfold lsBad; rw [if_pos (by omega)]
    rw [e, if_neg (by decide), if_neg (by decide)]
    have HX := Lib.hid hx
    clear hx hr hB hm e
    go_enter Try.func18, Try.ntmps18
    go_wp2_with fail
    go_ret2
    exact ⟨_, rfl, Own.nil_ _ _ _ _, HX.out, World.grownBy.refl _ _⟩
  · by_cases h2 : (nx : Int) ≥ 4294967295
    · have e : lsBad m nx = 8 := by unfold lsBad; rw [if_neg (by omega), if_pos (by omega)]
      rw [e, if_neg (by decide), if_neg (by decide)]
      have cn := hx.nc
      have HX := Lib.hid hx
      have hd : decide ((nx : Int) ≥ 4294967295) = true := by simp; omega
      clear hx hr hB hm e
      go_enter Try.func18, Try.ntmps18
      go_wp2_with fail
      go_ret2
      exact ⟨_, rfl, Own.nil_ _ _ _ _, HX.out, World.grownBy.refl _ _⟩
    · have e : lsBad m nx = 0 := by unfold lsBad; rw [if_neg (by omega), if_neg (by omega)]
      rw [e, if_pos rfl, if_pos rfl, errV_zero]
      exact lsend_any w g t h s sk rk nx hx (by omega) T m d B text hr hB hm (by omega)
/-- what Take's error is -/
def ltBad (rk : List (BitVec 8)) (r : Nat) (X : List (BitVec 8)) : Nat := if X.length < 20 ∨ 65556 < X.length then 1 else if r ≠ 0 then r else openBad rk (nonce (BitVec.ofNat 64 (headN (X.take 4)))) (X.take 4) (X.drop 4)
def ltV (rk : List (BitVec 8)) (r : Nat) (X : List (BitVec 8)) : List (BitVec 8) := if ltBad rk r X = 0 then openV rk (nonce (BitVec.ofNat 64 (headN (X.take 4)))) (X.take 4) (X.drop 4) else []
set_option maxRecDepth 100000 in
theorem ltake_len (w : World) (g : Nat) (M : Option Addr) (L d : Nat) (h1 : L < 20 ∨ 65556 < L) :
    Calls Try.prog 19 #[.pointer (some ⟨g, 0, none⟩), .slice M L d] w fun e w' => e = .returned (.tuple #[.slice none 0 0, errV 1]) ∧ w' = w := by
  rw [errV_pos (by decide)]
  rcases h1 with h1 | h1
  · have h1i : (L : Int) < 20 := by omega
    clear h1
    go_enter Try.func19, Try.ntmps19
    go_wp2_with fail
    go_ret2
    exact ⟨rfl, rfl⟩
  · have h1i : ¬ ((L : Int) < 20) := by omega
    have h2i : (L : Int) > 65556 := by omega
    clear h1
    go_enter Try.func19, Try.ntmps19
    go_wp2_with fail
    go_ret2
    exact ⟨rfl, rfl⟩
set_option maxRecDepth 100000 in
theorem ltakeG_any (w : World) (g : Nat) (t : Bool) (h : Int) (s : BitVec 64) (sk rk : List (BitVec 8)) (nx : Int) (hx : LinkAt w g t h s sk rk nx) (hh : t = true → 0 ≤ h ∧ h < 4294967295) (M : Option Addr) (L d B : Nat) (X : List (BitVec 8)) (hr : Rd b8 w B M X) (hB : B ≤ w.heap.size) (hL : X.length = L) (hLd : L ≤ d) (hd : d ≤ maxLen) (r n : Nat) (hn : headN (X.take 4) = n) (hc : winCheck t h s (n : Int) = r) :
    Calls Try.prog 19 #[.pointer (some ⟨g, 0, none⟩), .slice M L d] w fun e w' => ∃ v, e = .returned (.tuple #[v, errV (ltBad rk r X)]) ∧ Own b8 w' w.heap.size 5 v (ltV rk r X) ∧ (ltBad rk r X ≠ 0 → LinkAt w' g t h s sk rk nx) ∧ (ltBad rk r X = 0 → LinkAt w' g (winMark t h s n).1 (winMark t h s n).2.1 (winMark t h s n).2.2 sk rk nx) ∧ w.grownBy w' (some g) := by
  by_cases h1 : L < 20 ∨ 65556 < L
  · have e : ltBad rk r X = 1 := by unfold ltBad; rw [hL, if_pos h1]
    have e2 : ltV rk r X = [] := by unfold ltV; rw [e, if_neg (by decide)]
    rw [e, e2]
    refine (ltake_len w g M L d h1).mono ?_
    rintro e w' ⟨rfl, rfl⟩
    exact ⟨_, rfl, Own.nil_ _ _ _ _, fun _ => hx, fun h0 => absurd h0 (by decide), World.grownBy.refl _ _⟩
  have eb : ltBad rk r X = if r ≠ 0 then r else openBad rk (nonce (BitVec.ofNat 64 n)) (X.take 4) (X.drop 4) := by unfold ltBad; rw [hL, if_neg h1, hn]
  have ev : ltV rk r X = if ltBad rk r X = 0 then openV rk (nonce (BitVec.ofNat 64 n)) (X.take 4) (X.drop 4) else [] := by unfold ltV; rw [hn]
  by_cases hr0 : r = 0
  · rw [if_neg (by simp [hr0])] at eb
    by_cases ho : openBad rk (nonce (BitVec.ofNat 64 n)) (X.take 4) (X.drop 4) = 0
    · rw [ho] at eb
      rw [eb, if_pos rfl] at ev
      rw [eb, ev]
      refine (ltake_any w g t h s sk rk nx hx hh M L d B X hr hB hL (by omega) (by omega) hLd hd n hn ho).mono ?_
      rintro e w' ⟨-, hq⟩
      obtain ⟨v, rfl, h2, h3, h4⟩ := hq (by rw [hc, hr0])
      exact ⟨v, rfl, h2, fun h0 => absurd rfl h0, fun _ => h3, h4⟩
    · rw [eb, if_neg ho] at ev
      rw [eb, ev]
      refine (ltake_no w g t h s sk rk nx hx hh M L d B X hr hB hL (by omega) (by omega) hLd hd n hn _ rfl ho).mono ?_
      rintro e w' ⟨-, hq⟩
      obtain ⟨rfl, h2⟩ := hq (by rw [hc, hr0])
      exact ⟨_, rfl, Own.nil_ _ _ _ _, fun _ => hx.below h2 hx.lt, fun h0 => absurd h0 ho, grown_bel (World.grownBy.refl _ _) h2⟩
  · rw [if_pos hr0] at eb
    rw [eb, if_neg hr0] at ev
    rw [eb, ev]
    by_cases ho : openBad rk (nonce (BitVec.ofNat 64 n)) (X.take 4) (X.drop 4) = 0
    · refine (ltake_any w g t h s sk rk nx hx hh M L d B X hr hB hL (by omega) (by omega) hLd hd n hn ho).mono ?_
      rintro e w' ⟨hq, -⟩
      obtain ⟨rfl, rfl⟩ := hq (by rw [hc]; exact hr0)
      rw [hc]
      exact ⟨_, rfl, Own.nil_ _ _ _ _, fun _ => hx, fun h0 => absurd h0 hr0, World.grownBy.refl _ _⟩
    · refine (ltake_no w g t h s sk rk nx hx hh M L d B X hr hB hL (by omega) (by omega) hLd hd n hn _ rfl ho).mono ?_
      rintro e w' ⟨hq, -⟩
      obtain ⟨rfl, rfl⟩ := hq (by rw [hc]; exact hr0)
      rw [hc]
      exact ⟨_, rfl, Own.nil_ _ _ _ _, fun _ => hx, fun h0 => absurd h0 hr0, World.grownBy.refl _ _⟩
set_option maxRecDepth 100000 in
theorem jump_any (w : World) (g : Nat) (t : Bool) (h : Int) (s : BitVec 64) (sk rk : List (BitVec 8)) (nx z : Int) (hx : LinkAt w g t h s sk rk nx) :
    Calls Try.prog 23 #[.pointer (some ⟨g, 0, none⟩), .int .i64 z] w fun e w' => e = .returned (.bool (decide (nx ≤ z) && decide (z ≤ 4294967295))) ∧ LinkAt w' g t h s sk rk (if nx ≤ z ∧ z ≤ 4294967295 then z else nx) ∧ w.grownBy w' (some g) := by
  have HX := Lib.hid hx
  have cn := hx.nc
  have fn := hx.fx
  clear hx
  by_cases h1 : z < nx
  · rw [decide_eq_false (by omega : ¬ nx ≤ z), if_neg (by omega)]
    go_enter Try.func23, Try.ntmps23
    go_wp2_with fail
    go_ret
    exact ⟨rfl, HX.out, World.grownBy.refl _ _⟩
  by_cases h2 : z > 4294967295
  · rw [decide_eq_false (by omega : ¬ z ≤ 4294967295), if_neg (by omega), Bool.and_false]
    have h1' : decide (z < nx) = false := by simp; omega
    go_enter Try.func23, Try.ntmps23
    go_wp2_with fail
    go_ret
    exact ⟨rfl, HX.out, World.grownBy.refl _ _⟩
  · rw [decide_eq_true (by omega : nx ≤ z), decide_eq_true (by omega : z ≤ 4294967295), if_pos (by omega), Bool.and_true]
    have h1' : decide (z < nx) = false := by simp; omega
    have h2' : decide (z > 4294967295) = false := by simp; omega
    go_enter Try.func23, Try.ntmps23
    go_wp2_with fail
    go_ret
    exact ⟨rfl, HX.out.setNext z, grownBy_setCell _ _ _ _⟩
end Go.Proofs.Ytkoefhbmkmepaaa
