/- CONTRACT: burrowref12.Take. -/
import Derived.Test.YtkoefhbmkmepaaaLinkR
namespace Go.Proofs.Ytkoefhbmkmepaaa
open Go.RowKit
set_option linter.unusedVariables false
set_option linter.unusedSimpArgs false

set_option maxRecDepth 100000 in
set_option maxHeartbeats 1000000 in
theorem refLTake_any (w : World) (key : List (BitVec 8)) (hk : key.length = 32) (P : Option Addr) (pn pc BP : Nat) (K : List Int) (hp : Rd i64v w BP P K) (hBP : BP ≤ w.heap.size) (hpn : K.length = pn) (hpm : pn ≤ 1000000) (hKb : -1 ≤ hiL K ∧ hiL K ≤ 4294967295)
    (M : Option Addr) (L d B : Nat) (X : List (BitVec 8)) (hr : Rd b8 w B M X) (hB : B ≤ w.heap.size) (hL : X.length = L) (hLd : L ≤ d) (hd : d ≤ maxLen) (r n : Nat) (hn : headN (X.take 4) = n) (hc : refCheck K (n : Int) = r) :
    Calls Try.prog 28 #[.agg (key.map b8).toArray, .slice P pn pc, .slice M L d] w fun e w' => ∃ q v, e = .returned (.tuple #[.int .i64 q, v, .int .i64 (ltBad key r X : Int)]) ∧ (ltBad key r X = 0 → q = (n : Int)) ∧ Own b8 w' w.heap.size 5 v (ltV key r X) ∧ Below w.heap.size w w' := by
  have HB1 := Lib.hid (show Below w.heap.size w (w.alloc (.cells (key.map b8).toArray 39)) from (Below.refl _ w).alloc (Nat.le_refl _) _)
  by_cases h1 : (L : Int) < 20
  · have e : ltBad key r X = 1 := by unfold ltBad; rw [hL, if_pos (by omega)]
    have e2 : ltV key r X = [] := by unfold ltV; rw [e, if_neg (by decide)]
    rw [e, e2]
    clear hp hr hB hL e e2 hk hn hc
    go_enter Try.func28, Try.ntmps28
    go_wp2_with fail
    go_ret3
    exact ⟨_, _, rfl, fun h => absurd h (by decide), Own.nil_ _ _ _ _, HB1.out⟩
  by_cases h2 : (L : Int) > 65556
  · have e : ltBad key r X = 1 := by unfold ltBad; rw [hL, if_pos (by omega)]
    have e2 : ltV key r X = [] := by unfold ltV; rw [e, if_neg (by decide)]
    have h1i : decide ((L : Int) < 20) = false := by simpa using h1
    rw [e, e2]
    clear hp hr hB hL e e2 hk hn hc
    go_enter Try.func28, Try.ntmps28
    go_wp2_with fail
    go_ret3
    exact ⟨_, _, rfl, Own.nil_ _ _ _ _, HB1.out⟩
  have hL1 : 20 ≤ L := by omega
  have hL2 : L ≤ 65556 := by omega
  have eb : ltBad key r X = if r ≠ 0 then r else openBad key (nonce (BitVec.ofNat 64 n)) (X.take 4) (X.drop 4) := by unfold ltBad; rw [hL, if_neg (by omega), hn]
  have ev : ltV key r X = if ltBad key r X = 0 then openV key (nonce (BitVec.ofNat 64 n)) (X.take 4) (X.drop 4) else [] := by unfold ltV; rw [hn]
  have HEb := Lib.hid eb
  have HEv := Lib.hid ev
  obtain ⟨b, off, rfl, hbB, -⟩ := hr.at_ (k := 0) (by omega)
  have HL := Lib.hid hL
  have HR := Lib.hid ((hr.more hB).alloc (Nat.le_refl _) (.cells (key.map b8).toArray 39))
  have HN := Lib.hid hn
  have HK := Lib.hid hk
  have HK1 := Lib.hid (Arr.new b8 w 39 key)
  have hcc := refCheck_any (n := pn) pc (n : Int) ((hp.more hBP).alloc (Nat.le_refl _) (.cells (key.map b8).toArray 39)) hpn hpm hKb
  rw [hc] at hcc
  have HC := Lib.hid hcc
  have h1i : ¬ ((L : Int) < 20) := h1
  have h2i : ¬ ((L : Int) > 65556) := h2
  have h4d : 4 ≤ d := by omega
  have h4L : 4 ≤ L := by omega
  have h4di : (4 : Int) ≤ (d : Int) := by omega
  have h4Li : (4 : Int) ≤ (L : Int) := by omega
  have hLdi : (L : Int) ≤ (d : Int) := by omega
  have hnb := headN_lt (X.take 4)
  rw [hn] at hnb
  have hsw : (w.alloc (.cells (key.map b8).toArray 39)).heap.size = w.heap.size + 1 := by simp
  generalize hw0 : w.alloc (.cells (key.map b8).toArray 39) = w0 at HK1 HB1 HR HC hsw
  have HW0 := Lib.hid hw0
  clear eb ev hp hr hB hL hn hk hc hcc hw0 h1 h2
  go_enter Try.func28, Try.ntmps28
  go_wp2_with fail
  rw [HW0.out]
  go_loop [9, 10] (fun v i => ∃ k : Nat, k ≤ 4 ∧ i = .int .i64 (k : Int) ∧ v = .int .i64 (headP X k : Nat)) (fun _ i => 4 - (intOf i).toNat)
  case atStart => exact ⟨0, by omega, rfl, rfl⟩
  case round =>
    obtain ⟨k, hk, rfl, rfl⟩ := hrel
    have hpl := headP_lt X k
    by_cases hlt4 : k < 4
    · obtain ⟨b', off', e', -, hcell⟩ := HR.out.at_ (k := k) (by rw [HL.out]; omega)
      cases e'
      have hps : headP X (k + 1) = headP X k * 256 + (X.getD k 0#8).toNat := rfl
      obtain ⟨x, hx⟩ : ∃ x, x = X.getD k 0#8 := ⟨_, rfl⟩
      rw [show X[k]'(by rw [HL.out]; omega) = x by rw [hx]; simp [List.getD, show k < X.length by rw [HL.out]; omega]] at hcell
      rw [← hx] at hps
      have hcell' : w0.cell? ⟨b, off + k, none⟩ = some (.int .u8 (bv x)) := hcell
      have hpb : headP X k < 16777216 := by
        refine Nat.lt_of_lt_of_le hpl ?_
        rw [show 16777216 = 256 ^ 3 from rfl]
        exact Nat.pow_le_pow_right (by omega) (by omega)
      obtain ⟨p, hp⟩ : ∃ p, p = headP X k := ⟨_, rfl⟩
      rw [← hp] at hps hpb ⊢
      have HPs := Lib.hid hps
      have hxl := x.isLt
      have hkL : k < L := by omega
      clear hcell hpl hps hp hx
      go_wp2_with fail
      refine ⟨⟨k + 1, by omega, by simp, ?_⟩, by simp [intOf]; omega⟩
      rw [HPs.out, IntWalk.wrap64_in _ (by unfold bv; omega)]
      congr 1
      unfold bv
      omega
    · obtain rfl : k = 4 := by omega
      have hp4 : headP X 4 = n := by rw [headP_4 X (by rw [HL.out]; omega)]; exact HN.out
      rw [hp4]
      clear hpl hp4
      go_wp2_with fail
      refine HC.out.mono ?_
      rintro e w' ⟨rfl, rfl⟩
      by_cases hr0 : r = 0
      · subst hr0
        have hbb := HEb.out
        rw [if_neg (by decide)] at hbb
        have hvv := HEv.out
        rw [hbb] at hvv
        obtain ⟨ob, hob⟩ : ∃ ob, ob = openBad key (nonce (BitVec.ofNat 64 n)) (X.take 4) (X.drop 4) := ⟨_, rfl⟩
        rw [← hob] at hbb hvv
        have hvv : ltV key 0 X = openV key (nonce (BitVec.ofNat 64 n)) (X.take 4) (X.drop 4) := by
          rw [hvv]
          by_cases h0 : ob = 0
          · rw [if_pos h0]
          · rw [if_neg h0]; unfold openV; rw [← hob, if_neg h0]
        have HBb := Lib.hid hbb
        have HVv := Lib.hid hvv
        obtain ⟨K4, hK4⟩ : ∃ K4, L - 4 = K4 := ⟨_, rfl⟩
        have hK4b : K4 ≤ 65552 := by omega
        have hK4d : K4 ≤ d - 4 := by omega
        have hd4 : ¬ (d = 4) := by omega
        obtain ⟨Z, hZ⟩ : ∃ Z, Z = key.map b8 := ⟨_, rfl⟩
        have hZl : Z.length = 32 := by rw [hZ, List.length_map, HK.out]
        have hu := Try.underlying39
        have hi32 : (Try.prog.info? 39).map (·.size) = some Z.length := by rw [hZl]; exact size32k
        have HKeep := Lib.hid (show ∀ W', Below w0.heap.size w0 W' → W'.rangeAt w.heap.size 0 Z from fun W' hb => by rw [hZ]; exact (HK1.out.below hb (by omega)).whole)
        have hk1 := HKeep.out _ (Below.refl _ w0).drew
        have HR0 := Lib.hid (HR.out.more (show w.heap.size ≤ w0.heap.size by omega))
        have H4 := Lib.hid (show Rd b8 w0 w0.heap.size (some ⟨b, off + 4, none⟩) (X.drop 4) by
          have hq := HR0.out.drop 4
          rw [Option.map_some] at hq
          have eA : (Addr.mk b off none).add 4 = ⟨b, off + 4, none⟩ := by simp [Addr.add]
          rwa [eA] at hq)
        have HO := Lib.hid (show ∀ (W' : World) (A2 : Option Addr) (c2 : Nat), Below w0.heap.size w0 W' → Rd b8 W' W'.heap.size A2 (nonce (BitVec.ofNat 64 n)) → 12 ≤ c2 → Calls Try.prog 37 #[.agg Z.toArray, .slice A2 12 c2, .slice (some ⟨b, off, none⟩) 4 d, .slice (some ⟨b, off + 4, none⟩) K4 (d - 4)] W' fun e w' => ∃ v, e = .returned (.tuple #[v, .int .i64 (ob : Int)]) ∧ Own b8 w' W'.heap.size 5 v (openV key (nonce (BitVec.ofNat 64 n)) (X.take 4) (X.drop 4)) ∧ Below W'.heap.size W' w' from fun W' A2 c2 hb h2 hc2 => by
          have hq := refOpen_any W' key HK.out A2 (some ⟨b, off, none⟩) (some ⟨b, off + 4, none⟩) 12 c2 4 d K4 (d - 4) _ _ _ (nonce (BitVec.ofNat 64 n)) (X.take 4) (X.drop 4) h2 (Nat.le_refl _) (by simp [nonce, le8]) hc2 ((HR0.out.take 4).below hb) hb.size (by rw [List.length_take, HL.out]; omega) (H4.out.below hb) hb.size (by rw [List.length_drop, HL.out]; exact hK4) hK4d (by simp only [maxLen]; omega)
          rw [← hob, arrV_mk, ← hZ] at hq
          exact hq)
        have HNn := Lib.hid (show ∀ W' : World, Calls Try.prog 36 #[.int .i64 (n : Int)] W' fun e w' => ∃ v, e = .returned v ∧ Own b8 w' W'.heap.size 5 v (nonce (BitVec.ofNat 64 n)) ∧ Below W'.heap.size W' w' from fun W' => by
          have hq := refNonce_any (n : Int) W'
          rwa [show BitVec.ofInt 64 (n : Int) = BitVec.ofNat 64 n by simp] at hq)
        clear hZ hZl hob hbb hvv
        go_wp2_with fail
        go_region_held3 (fun w' => w'.rangeAt w.heap.size 0 Z)
          (first
            | exact HKeep.out _ HX3.out
            | exact HKeep.out _ HX2.out
            | exact hk1
            | go_keep)
          (first
            | (go_simp; go_at_call 36; refine (HNn.out _).mono ?_; rintro e w2 ⟨v2, rfl, ho2, hb2⟩; obtain ⟨A2, c2, rfl, hr2, -, hc2, -⟩ := ho2.shape' (n := 12) (by simp [nonce, le8]); have HX2 := Lib.hid (show Below w0.heap.size w0 w2 from (Below.refl _ w0).drew.trans hb2); have HR2 := Lib.hid hr2; clear ho2 hb2 hr2)
            | (go_simp; go_at_call 37; refine (HO.out w2 A2 c2 HX2.out HR2.out hc2).mono ?_; rintro e w3 ⟨v3, rfl, ho3, hb3⟩; have HX3 := Lib.hid (show Below w0.heap.size w0 w3 from HX2.out.trans (hb3.mono HX2.out.size)); have HO3 := Lib.hid ho3; clear ho3 hb3))
        have HB3 := Lib.hid (HB1.out.trans (HX3.out.mono (by omega)))
        have HO3' := Lib.hid (HO3.out.less (show w.heap.size ≤ w2.heap.size by have := HX2.out.size; omega))
        go_wp2_with fail
        go_ret3
        rw [HBb.out, HVv.out]
        exact ⟨_, _, rfl, fun _ => rfl, HO3'.out, HB3.out⟩
      · have hbb := HEb.out
        rw [if_pos hr0] at hbb
        have hvv := HEv.out
        rw [hbb, if_neg hr0] at hvv
        have HBb := Lib.hid hbb
        have HVv := Lib.hid hvv
        have HR0 := Lib.hid hr0
        have hrn : ((r : Int) == 0) = false := by simp; omega
        have hrn2 : (r = 0) = False := by simp [hr0]
        clear hbb hvv hr0
        go_wp2_with fail
        go_ret3
        rw [HBb.out, HVv.out]
        exact ⟨_, _, rfl, fun h => absurd h HR0.out, Own.nil_ _ _ _ _, HB1.out⟩
end Go.Proofs.Ytkoefhbmkmepaaa
