/- CONTRACTS: burrowref12.head, Send, Take. -/
import Derived.Test.YtkoefhbmkmepaaaLinkG
import Derived.Test.YtkoefhbmkmepaaaSealR
import Derived.Test.YtkoefhbmkmepaaaOpenR
namespace Go.Proofs.Ytkoefhbmkmepaaa
open Go.RowKit
set_option linter.unusedVariables false
set_option linter.unusedSimpArgs false

theorem infoU8L : (Try.prog.info? 5).map (fun i => (i.zero, i.size, i.bytes)) = some (some (.int .u8 0), 1, 1) := by kernel_rfl
theorem bv8m (n : Nat) : ((n % 256 : Nat) : Int) = bv (BitVec.ofNat 8 n) := by unfold bv; rw [BitVec.toNat_ofNat]
set_option maxRecDepth 100000 in
theorem refHead_any (n : Nat) (hn : n < 4294967296) (w : World) :
    Calls Try.prog 34 #[.int .i64 (n : Int)] w fun e w' => ∃ v, e = .returned v ∧ Own b8 w' w.heap.size 5 v (headV n) ∧ Below w.heap.size w w' := by
  go_enter Try.func34, Try.ntmps34
  go_wp2_with fail
  go_ret
  have e0 : ((n : Int) % 256) = bv (BitVec.ofNat 8 n) := by rw [← bv8m]; omega
  have e1 : ((n : Int) / 256 % 256) = bv (BitVec.ofNat 8 (n / 256)) := by rw [← bv8m]; omega
  have e2 : ((n : Int) / 65536 % 256) = bv (BitVec.ofNat 8 (n / 65536)) := by rw [← bv8m]; omega
  have e3 : ((n : Int) / 16777216) = bv (BitVec.ofNat 8 (n / 16777216)) := by rw [← bv8m]; omega
  rw [e0, e1, e2, e3]
  exact ⟨_, rfl, Own.lit b8 w w.heap.size 5 (headV n) (Nat.le_refl _) (by simp [headV, maxLen]), (Below.refl _ _).alloc (Nat.le_refl _) _⟩
/-- what the reference's Send's error is -/
def rsBad (m : Nat) (z : Int) : Nat := if 65536 < m then 1 else if z < 0 ∨ 4294967294 < z then 8 else 0
set_option maxRecDepth 100000 in
set_option maxHeartbeats 1000000 in
theorem refLSend_any (w : World) (key : List (BitVec 8)) (hk : key.length = 32) (z : Int) (T : Option Addr) (m d B : Nat) (text : List (BitVec 8)) (hr : Rd b8 w B T text) (hB : B ≤ w.heap.size) (hm : text.length = m) :
    Calls Try.prog 26 #[.agg (key.map b8).toArray, .int .i64 z, .slice T m d] w fun e w' => ∃ v, e = .returned (.tuple #[v, .int .i64 (rsBad m z : Int)]) ∧ Own b8 w' w.heap.size 5 v (if rsBad m z = 0 then msgV key z.toNat text else []) ∧ Below w.heap.size w w' := by
  obtain ⟨i0, hi0, hz0, hz1, hz2⟩ := info_parts infoU8L
  have HK := Lib.hid hk
  have HM := Lib.hid hm
  have HK1 := Lib.hid (Arr.new b8 w 39 key)
  have HB1 := Lib.hid (show Below w.heap.size w (w.alloc (.cells (key.map b8).toArray 39)) from (Below.refl _ w).alloc (Nat.le_refl _) _)
  by_cases h1 : (m : Int) > 65536
  · have e : rsBad m z = 1 := by unfold rsBad; rw [if_pos (by omega)]
    rw [e, if_neg (by decide)]
    clear hr hB hm e hk
    go_enter Try.func26, Try.ntmps26
    go_wp2_with fail
    go_ret2
    exact ⟨_, rfl, Own.nil_ _ _ _ _, HB1.out⟩
  by_cases h2 : z < 0
  · have e : rsBad m z = 8 := by unfold rsBad; rw [if_neg (by omega), if_pos (.inl h2)]
    rw [e, if_neg (by decide)]
    clear hr hB hm e hk
    go_enter Try.func26, Try.ntmps26
    go_wp2_with fail
    go_ret2
    exact ⟨_, rfl, Own.nil_ _ _ _ _, HB1.out⟩
  have h2' : decide (z < 0) = false := by simpa using h2
  by_cases h3 : z > 4294967294
  · have e : rsBad m z = 8 := by unfold rsBad; rw [if_neg (by omega), if_pos (.inr h3)]
    rw [e, if_neg (by decide)]
    clear hr hB hm e hk
    go_enter Try.func26, Try.ntmps26
    go_wp2_with fail
    go_ret2
    exact ⟨_, rfl, Own.nil_ _ _ _ _, HB1.out⟩
  have h3' : decide (z > 4294967294) = false := by simpa using h3
  have e : rsBad m z = 0 := by unfold rsBad; rw [if_neg (by omega), if_neg (by omega)]
  rw [e, if_pos rfl]
  obtain ⟨nx, rfl⟩ : ∃ nx : Nat, z = (nx : Int) := ⟨z.toNat, by omega⟩
  rw [Int.toNat_natCast]
  have hm2 : m ≤ 65536 := by omega
  have hnx : nx ≤ 4294967294 := by omega
  have HR := Lib.hid ((hr.more hB).alloc (Nat.le_refl _) (.cells (key.map b8).toArray 39))
  have hsz1 : (w.alloc (.cells (key.map b8).toArray 39)).heap.size = w.heap.size + 1 := by simp
  clear e hr hB hk hm h2 h3
  go_enter Try.func26, Try.ntmps26
  go_wp2_with fail
  generalize hw0 : w.alloc (.cells (key.map b8).toArray 39) = w0 at HK1 HB1 HR hsz1 ⊢
  clear hw0
  refine (refHead_any nx (by omega) _).mono ?_
  rintro e w1 ⟨v1, rfl, ho1, hb1⟩
  have hs1 := hb1.size
  have HO1 := Lib.hid (ho1.less (show w.heap.size ≤ w0.heap.size by omega))
  obtain ⟨A1, c1, rfl, hr1, -, -, -⟩ := ho1.shape' (headV_len nx)
  have HA1 := Lib.hid (HK1.out.below hb1 (by omega))
  have HR1 := Lib.hid (HR.out.below (hb1.mono (by omega)))
  have HH1 := Lib.hid hr1
  have HQ1 := Lib.hid (HB1.out.trans (hb1.mono (by omega)))
  clear ho1 hb1 hr1 HK1 HR HB1
  obtain ⟨Z, hZ⟩ : ∃ Z, Z = key.map b8 := ⟨_, rfl⟩
  have hZl : Z.length = 32 := by rw [hZ, List.length_map, HK.out]
  have hu := Try.underlying39
  have hi32 : (Try.prog.info? 39).map (·.size) = some Z.length := by rw [hZl]; exact size32k
  have HKeep := Lib.hid (show ∀ W', Below w1.heap.size w1 W' → W'.rangeAt w.heap.size 0 Z from fun W' hb => by rw [hZ]; exact (HA1.out.below hb (by omega)).whole)
  have hk1 := HKeep.out _ (Below.refl _ w1).drew
  have hbs : sealBad 12 4 m = 0 := by unfold sealBad; rw [if_neg (by omega)]
  have HSe := Lib.hid (show ∀ (W' : World) (A2 : Option Addr) (c2 : Nat), Below w1.heap.size w1 W' → Rd b8 W' W'.heap.size A2 (nonce (BitVec.ofNat 64 nx)) → 12 ≤ c2 → Calls Try.prog 35 #[.agg Z.toArray, .slice A2 12 c2, .slice A1 4 c1, .slice T m d] W' fun e w' => ∃ v, e = .returned (.tuple #[v, .int .i64 0]) ∧ Own b8 w' W'.heap.size 5 v (sealV key (nonce (BitVec.ofNat 64 nx)) (headV nx) text) ∧ Below W'.heap.size W' w' from fun W' A2 c2 hb h2 hc2 => by
    have hq := refSeal_any W' key HK.out A2 A1 T 12 c2 4 c1 m d _ _ _ (nonce (BitVec.ofNat 64 nx)) (headV nx) text h2 (Nat.le_refl _) (by simp [nonce, le8]) hc2 ((HH1.out.below hb).more hb.size) (Nat.le_refl _) (headV_len nx) ((HR1.out.below (hb.mono (by omega))).more (by have := hb.size; omega)) (Nat.le_refl _) HM.out
    rw [hbs, arrV_mk, ← hZ] at hq
    exact hq)
  have HN := Lib.hid (show ∀ W' : World, Calls Try.prog 36 #[.int .i64 (nx : Int)] W' fun e w' => ∃ v, e = .returned v ∧ Own b8 w' W'.heap.size 5 v (nonce (BitVec.ofNat 64 nx)) ∧ Below W'.heap.size W' w' from fun W' => by
    have hq := refNonce_any (nx : Int) W'
    rwa [show BitVec.ofInt 64 (nx : Int) = BitVec.ofNat 64 nx by simp] at hq)
  clear hZ hZl hbs
  go_wp2_with fail
  go_region_held3 (fun w' => w'.rangeAt w.heap.size 0 Z)
    (first
      | exact HKeep.out _ HX3.out
      | exact HKeep.out _ HX2.out
      | exact hk1
      | go_keep)
    (first
      | (go_simp; go_at_call 36; refine (HN.out _).mono ?_; rintro e w2 ⟨v2, rfl, ho2, hb2⟩; obtain ⟨A2, c2, rfl, hr2, -, hc2, -⟩ := ho2.shape' (n := 12) (by simp [nonce, le8]); have HX2 := Lib.hid (show Below w1.heap.size w1 w2 from (Below.refl _ w1).drew.trans hb2); have HR2 := Lib.hid hr2; clear ho2 hb2 hr2)
      | (go_simp; go_at_call 35; refine (HSe.out w2 A2 c2 HX2.out HR2.out hc2).mono ?_; rintro e w3 ⟨v3, rfl, ho3, hb3⟩; have HX3 := Lib.hid (show Below w1.heap.size w1 w3 from HX2.out.trans (hb3.mono HX2.out.size)); have HO3 := Lib.hid ho3; clear ho3 hb3))
  obtain ⟨S, hS⟩ : ∃ S, S = sealV key (nonce (BitVec.ofNat 64 nx)) (headV nx) text := ⟨_, rfl⟩
  have hSl : S.length = m + 16 := by
    rw [hS, sealV_len _ _ _ _ (by rw [HM.out, headV_len, show (nonce (BitVec.ofNat 64 nx)).length = 12 by simp [nonce, le8]]; unfold sealBad; rw [if_neg (by omega)]), HM.out]
  have HSe' := Lib.hid (show msgV key nx text = headV nx ++ S by rw [hS]; exact (Eq.refl (msgV key nx text)))
  obtain ⟨N, hN⟩ : ∃ N, N = m + 16 := ⟨_, rfl⟩
  have ho3 := HO3.out
  rw [← hS] at ho3
  obtain ⟨A3, c3, rfl, hr3, -, -, -⟩ := ho3.shape' (n := N) (by rw [hSl, hN])
  have HSN := Lib.hid (show S.length = N by rw [hSl, hN])
  have hNb : N ≤ 65552 := by omega
  have HR3 := Lib.hid hr3
  have hs3 := HX3.out.size
  have HO13 := Lib.hid (HO1.out.below HX3.out (Nat.le_refl _))
  have HB3 := Lib.hid (HQ1.out.trans (HX3.out.mono (by omega)))
  clear hS hSl hN ho3 hr3 HO1 HX2 HX3 HO3 HR2
  go_wp2_with (at_builtin; refine wpList_append_rd rfl (.tmp 31) (.tmp 32) 47 rfl b8_one w.heap.size 5 i0 _ 1 Try.underlying47 hi0 hz0 hz1 hz2 rfl _ _ rfl HO13.out w3.heap.size A3 N c3 S rfl HSN.out.symm HR3.out (by rw [HSN.out, headV_len]; simp [maxLen]; omega) (by rw [HSN.out, headV_len]; omega) (by omega) ?_; intro v4 w4 hown4 hg4 hbb4; have HO4 := Lib.hid hown4; have HB4 := Lib.hid (hbb4 _ _ (Nat.le_refl _) HB3.out); clear hown4 hg4 hbb4)
  go_ret2
  rw [HSe'.out]
  exact ⟨_, rfl, HO4.out, HB4.out⟩
end Go.Proofs.Ytkoefhbmkmepaaa
