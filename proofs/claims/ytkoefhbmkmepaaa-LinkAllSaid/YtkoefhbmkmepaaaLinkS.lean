/- CONTRACTS: link.head, link.Send on a link. -/
import Derived.Test.YtkoefhbmkmepaaaLinkD
import Derived.Test.YtkoefhbmkmepaaaSealW
import Derived.Test.YtkoefhbmkmepaaaSealLaw
import Derived.Deep.RegionHeld3
namespace Go.Proofs.Ytkoefhbmkmepaaa
open Go.RowKit
set_option linter.unusedVariables false
set_option linter.unusedSimpArgs false

theorem grown_bel {a w w' : World} {r : Option Nat} (h : a.grownBy w r) (hb : Below w.heap.size w w') : a.grownBy w' r := ⟨hb.os.trans h.os, hb.tape.trans h.tape, hb.output.trans h.output, Nat.le_trans h.size hb.size, fun k hk hne => (hb.block k (Nat.lt_of_lt_of_le hk h.size)).trans (h.block k hk hne)⟩
theorem wrap8 (n : Nat) : IntKind.u8.wrap (n : Int) = bv (BitVec.ofNat 8 n) := by rw [wrap_u8v]; unfold bv; rw [BitVec.toNat_ofNat]; omega
set_option maxRecDepth 100000 in
theorem head_any (n : Nat) (hn : n < 4294967296) (w : World) :
    Calls Try.prog 29 #[.int .i64 (n : Int)] w fun e w' => ∃ v, e = .returned v ∧ Own b8 w' w.heap.size 5 v (headV n) ∧ Below w.heap.size w w' := by
  have e0 := wrap8 n
  have e1 : IntKind.u8.wrap ((n : Int) / 256) = bv (BitVec.ofNat 8 (n / 256)) := by rw [← wrap8]; congr 1
  have e2 : IntKind.u8.wrap ((n : Int) / 65536) = bv (BitVec.ofNat 8 (n / 65536)) := by rw [← wrap8]; congr 1
  have e3 : IntKind.u8.wrap ((n : Int) / 16777216) = bv (BitVec.ofNat 8 (n / 16777216)) := by rw [← wrap8]; congr 1
  have hni : (n : Int) < 4294967296 := by omega
  go_enter Try.func29, Try.ntmps29
  go_wp2_with fail
  go_ret
  exact ⟨_, rfl, Own.lit b8 w w.heap.size 5 (headV n) (Nat.le_refl _) (by simp [headV, maxLen]), (Below.refl _ _).alloc (Nat.le_refl _) _⟩
set_option maxRecDepth 100000 in
set_option maxHeartbeats 1000000 in
theorem lsend_any (w : World) (g : Nat) (t : Bool) (h : Int) (s : BitVec 64) (sk rk : List (BitVec 8)) (nx : Nat) (hx : LinkAt w g t h s sk rk (nx : Int)) (hnx : nx < 4294967295) (T : Option Addr) (m d B : Nat) (text : List (BitVec 8)) (hr : Rd b8 w B T text) (hB : B ≤ w.heap.size) (hm : text.length = m) (hm2 : m ≤ 65536) :
    Calls Try.prog 18 #[.pointer (some ⟨g, 0, none⟩), .slice T m d] w fun e w' => ∃ v, e = .returned (.tuple #[v, .nilIface]) ∧ Own b8 w' w.heap.size 5 v (msgV sk nx text) ∧ LinkAt w' g t h s sk rk ((nx : Int) + 1) ∧ w.grownBy w' (some g) := by
  have HX := Lib.hid hx
  have HM := Lib.hid hm
  have HR := Lib.hid (hr.more hB)
  have cn := hx.nc
  have fn := hx.fx
  have hlt := hx.lt
  have hSl := hx.sl
  have hm2i : ¬ ((m : Int) > 65536) := by omega
  have hnxi : ¬ ((nx : Int) ≥ 4294967295) := by omega
  have hnxl : (nx : Int) < 4294967295 := by omega
  have HSl := Lib.hid hSl
  clear hx hr hB hm hSl
  go_enter Try.func18, Try.ntmps18
  go_wp2_with fail
  refine (head_any nx (by omega) _).mono ?_
  rintro e w1 ⟨v1, rfl, ho1, hb1⟩
  obtain ⟨A1, c1, rfl, hr1, -, -, -⟩ := ho1.shape' (headV_len nx)
  have hz1 := hb1.size
  have HX1 := Lib.hid (HX.out.below hb1 hlt)
  have HB1 := Lib.hid hb1
  have HR1 := Lib.hid (HR.out.below hb1)
  have HH1 := Lib.hid hr1
  have HA1 := Lib.hid (show ∀ b' off', A1 = some ⟨b', off', none⟩ → b' ≠ g from fun b' off' e => by have := ho1.lt b' (by rw [e]; rfl); omega)
  clear ho1 hb1 hr1 cn fn HR HX
  obtain ⟨Z, hZ⟩ : ∃ Z, Z = sk.map b8 := ⟨_, rfl⟩
  have hZl : Z.length = 32 := by rw [hZ, List.length_map, HSl.out]
  have hu := Try.underlying39
  have hi32 : (Try.prog.info? 39).map (·.size) = some Z.length := by rw [hZl]; exact size32k
  have HKeep := Lib.hid (show ∀ W', Below w1.heap.size w1 W' → W'.rangeAt g 3 Z ∧ W'.cell? ⟨g, 67, none⟩ = some (.int .i64 (nx : Int)) from fun W' hb => ⟨by rw [hZ]; exact (HX1.out.below hb (by omega)).ks, (HX1.out.below hb (by omega)).nc⟩)
  have hk1 := (HKeep.out _ (Below.refl _ w1).drew).1
  have hk2 := (HKeep.out _ (Below.refl _ w1).drew).2
  have hbs : sealBad 12 4 m = 0 := by unfold sealBad; rw [if_neg (by omega)]
  have HSe := Lib.hid (show ∀ (W' : World) (A2 : Option Addr) (c2 : Nat), Below w1.heap.size w1 W' → Rd b8 W' W'.heap.size A2 (nonce (BitVec.ofNat 64 nx)) → 12 ≤ c2 → Calls Try.prog 30 #[.agg Z.toArray, .slice A2 12 c2, .slice A1 4 c1, .slice T m d] W' fun e w' => ∃ v, e = .returned (.tuple #[v, .nilIface]) ∧ Own b8 w' W'.heap.size 5 v (sealV sk (nonce (BitVec.ofNat 64 nx)) (headV nx) text) ∧ Below W'.heap.size W' w' from fun W' A2 c2 hb h2 hc2 => by
    have hq := seal_any W' sk HSl.out A2 A1 T 12 c2 4 c1 m d _ _ _ (nonce (BitVec.ofNat 64 nx)) (headV nx) text h2 (Nat.le_refl _) (by simp [nonce, le8]) hc2 ((HH1.out.below hb).more hb.size) (Nat.le_refl _) (headV_len nx) ((HR1.out.below (hb.mono hz1)).more (Nat.le_trans hz1 hb.size)) (Nat.le_refl _) HM.out
    rw [hbs, errV_zero, arrV_mk, ← hZ] at hq
    exact hq)
  have HN := Lib.hid (show ∀ W' : World, Calls Try.prog 31 #[.int .i64 (nx : Int)] W' fun e w' => ∃ v, e = .returned v ∧ Own b8 w' W'.heap.size 5 v (nonce (BitVec.ofNat 64 nx)) ∧ Below W'.heap.size W' w' from fun W' => by
    have hq := nonce_any (nx : Int) W'
    rwa [show BitVec.ofInt 64 (nx : Int) = BitVec.ofNat 64 nx by simp] at hq)
  clear hZ hZl hbs
  go_wp2_with fail
  go_region_held3 (fun w' => w'.rangeAt g 3 Z ∧ w'.cell? ⟨g, 67, none⟩ = some (.int .i64 (nx : Int)))
    (first
      | exact HKeep.out _ HX3.out
      | exact HKeep.out _ HX2.out
      | exact ⟨hk1, hk2⟩
      | go_keep)
    (first
      | (go_simp; go_at_call 31; refine (HN.out _).mono ?_; rintro e w2 ⟨v2, rfl, ho2, hb2⟩; obtain ⟨A2, c2, rfl, hr2, -, hc2, -⟩ := ho2.shape' (n := 12) (by simp [nonce, le8]); have HX2 := Lib.hid (show Below w1.heap.size w1 w2 from (Below.refl _ w1).drew.trans hb2); have HR2 := Lib.hid hr2; clear ho2 hb2 hr2)
      | (go_simp; go_at_call 30; refine (HSe.out w2 A2 c2 HX2.out HR2.out hc2).mono ?_; rintro e w3 ⟨v3, rfl, ho3, hb3⟩; have HX3 := Lib.hid (show Below w1.heap.size w1 w3 from HX2.out.trans (hb3.mono HX2.out.size)); have HO3 := Lib.hid ho3; clear ho3 hb3))
  obtain ⟨S, hS⟩ : ∃ S, S = sealV sk (nonce (BitVec.ofNat 64 nx)) (headV nx) text := ⟨_, rfl⟩
  have hSl : S.length = m + 16 := by
    rw [hS, sealV_len _ _ _ _ (by rw [HM.out, headV_len, show (nonce (BitVec.ofNat 64 nx)).length = 12 by simp [nonce, le8]]; unfold sealBad; rw [if_neg (by omega)]), HM.out]
  have HSe' := Lib.hid (show msgV sk nx text = headV nx ++ S by rw [hS]; exact (Eq.refl (msgV sk nx text)))
  obtain ⟨N, hN⟩ : ∃ N, N = m + 16 := ⟨_, rfl⟩
  have ho3 := HO3.out
  rw [← hS] at ho3
  obtain ⟨A3, c3, rfl, hr3, -, -, -⟩ := ho3.shape' (n := N) (by rw [hSl, hN])
  have hSN : S.length = N := by rw [hSl, hN]
  have HA3 := Lib.hid (show ∀ b' off', A3 = some ⟨b', off', none⟩ → b' ≠ g from fun b' off' e => by have := ho3.lt b' (by rw [e]; rfl); have := HX2.out.size; omega)
  have HX4 := Lib.hid (HX1.out.below HX3.out (by omega))
  have cn := HX4.out.nc
  have fn := HX4.out.fx
  have hz3 := HX3.out.size
  obtain ⟨w4, hw4⟩ : ∃ w4, w4 = w3.setCell ⟨g, 67, none⟩ (.int .i64 ((nx : Int) + 1)) := ⟨_, rfl⟩
  have hz4 : w4.heap.size = w3.heap.size := by rw [hw4]; simp
  have HX5 := Lib.hid (show LinkAt w4 g t h s sk rk ((nx : Int) + 1) by rw [hw4]; exact HX4.out.setNext _)
  have hG3 : w.grownBy w3 none := grown_none2 (HB1.out.trans (HX3.out.mono hz1))
  have hG4 : w.grownBy w4 (some g) := by
    rw [hw4]; exact grownBy_trans ⟨hG3.os, hG3.tape, hG3.output, hG3.size, fun k hk _ => hG3.block k hk (by simp)⟩ (grownBy_setCell w3 g 67 _) (fun g' e => .inl e)
  have HG4 := Lib.hid hG4
  have hfar : ∀ {A' : Option Addr} {xs : List (BitVec 8)} , Rd b8 w3 w3.heap.size A' xs → (∀ b' off', A' = some ⟨b', off', none⟩ → b' ≠ g) → Rd b8 w4 w4.heap.size A' xs := fun hr hne hp => by
    obtain ⟨b', off', e', hb', hc'⟩ := hr hp
    exact ⟨b', off', e', by omega, fun j u hu => by rw [hw4]; exact (World.cell?_setCell_other w3 _ _ _ (fun e => hne b' off' e' (congrArg Addr.block e).symm)).trans (hc' j u hu)⟩
  have HW4 := Lib.hid hw4
  clear hw4 hG3 hG4 hS hN
  go_wp2_with fail
  rw [← HW4.out]
  have hcc := concat_two w4 w4.heap.size 4 c1 N c3 A1 A3 (headV nx) S (hfar ((HH1.out.below HX3.out).more (by omega)) HA1.out) (hfar hr3 HA3.out) (Nat.le_refl _) (headV_len nx).symm hSN.symm (by rw [hSN, headV_len]; omega)
  rw [hz4] at hcc
  have HCc := Lib.hid hcc
  clear hcc cn fn
  refine HCc.out.mono ?_
  rintro e w5 ⟨v5, rfl, ho5, hb5⟩
  have HO5 := Lib.hid (ho5.less (show w.heap.size ≤ w3.heap.size + 1 by omega))
  have HL5 := Lib.hid (HX5.out.below hb5 (by omega))
  have HG5 := Lib.hid (grown_bel HG4.out (by rw [hz4]; exact hb5))
  clear ho5 hb5 HCc
  go_wp2_with fail
  go_ret2
  rw [HSe'.out]
  exact ⟨_, rfl, HO5.out, HL5.out, HG5.out⟩
end Go.Proofs.Ytkoefhbmkmepaaa
