/- CONTRACT: link.Take on a link, of a message that was sealed for it. -/
import Derived.Test.YtkoefhbmkmepaaaLinkS
import Derived.Test.YtkoefhbmkmepaaaOpenW
namespace Go.Proofs.Ytkoefhbmkmepaaa
open Go.RowKit
set_option linter.unusedVariables false
set_option linter.unusedSimpArgs false

def headP (X : List (BitVec 8)) : Nat → Nat
  | 0 => 0
  | k + 1 => headP X k * 256 + (X.getD k 0#8).toNat
theorem headP_lt (X : List (BitVec 8)) : ∀ k, headP X k < 256 ^ k
  | 0 => by simp [headP]
  | k + 1 => by
    have h := headP_lt X k
    have hb := (X.getD k 0#8).isLt
    simp only [headP]
    rw [Nat.pow_succ]
    omega
theorem headP_4 (X : List (BitVec 8)) (h : 4 ≤ X.length) : headP X 4 = headN (X.take 4) := by
  match X, h with
  | a :: b :: c :: d :: r, _ => simp [headP, headN]
theorem or_i64 (a c : Nat) (ha : a < 16777216) (hc : c < 256) : bits .or .i64 ((a * 256 : Nat) : Int) (c : Int) = ((a * 256 + c : Nat) : Int) := by
  have h1 : (BitVec.ofInt 64 ((a * 256 : Nat) : Int)).toNat = a * 256 := by
    rw [BitVec.ofInt_natCast, BitVec.toNat_ofNat]; exact Nat.mod_eq_of_lt (by omega)
  have h2 : (BitVec.ofInt 64 (c : Int)).toNat = c := by
    rw [BitVec.ofInt_natCast, BitVec.toNat_ofNat]; exact Nat.mod_eq_of_lt (by omega)
  have h3 : a * 256 ||| c = a * 256 + c := by
    have := Nat.two_pow_add_eq_or_of_lt (i := 8) (b := c) (by omega) a
    rw [show 2 ^ 8 * a = a * 256 by omega] at this
    exact this.symm
  show IntKind.i64.wrap ((BitVec.ofInt 64 ((a * 256 : Nat) : Int) ||| BitVec.ofInt 64 (c : Int)).toNat : Int) = _
  rw [BitVec.toNat_or, h1, h2, h3, IntWalk.i64_in _ (by omega)]
set_option maxRecDepth 100000 in
set_option maxHeartbeats 1000000 in
theorem ltake_any (w : World) (g : Nat) (t : Bool) (h : Int) (s : BitVec 64) (sk rk : List (BitVec 8)) (nx : Int) (hx : LinkAt w g t h s sk rk nx) (hh : t = true → 0 ≤ h ∧ h < 4294967295) (M : Option Addr) (L d B : Nat) (X : List (BitVec 8)) (hr : Rd b8 w B M X) (hB : B ≤ w.heap.size) (hL : X.length = L) (hL1 : 20 ≤ L) (hL2 : L ≤ 65556) (hLd : L ≤ d) (hd : d ≤ maxLen) (n : Nat) (hn : headN (X.take 4) = n)
    (hop : openBad rk (nonce (BitVec.ofNat 64 n)) (X.take 4) (X.drop 4) = 0) :
    Calls Try.prog 19 #[.pointer (some ⟨g, 0, none⟩), .slice M L d] w fun e w' =>
      (winCheck t h s (n : Int) ≠ 0 → e = .returned (.tuple #[.slice none 0 0, errV (winCheck t h s (n : Int))]) ∧ w' = w) ∧
      (winCheck t h s (n : Int) = 0 → ∃ v, e = .returned (.tuple #[v, .nilIface]) ∧ Own b8 w' w.heap.size 5 v (openV rk (nonce (BitVec.ofNat 64 n)) (X.take 4) (X.drop 4)) ∧ LinkAt w' g (winMark t h s n).1 (winMark t h s n).2.1 (winMark t h s n).2.2 sk rk nx ∧ w.grownBy w' (some g)) := by
  obtain ⟨b, off, rfl, hbB, -⟩ := hr.at_ (k := 0) (by omega)
  have HX := Lib.hid hx
  have HL := Lib.hid hL
  have HR := Lib.hid (hr.more hB)
  have HN := Lib.hid hn
  have HOp := Lib.hid hop
  have hlt := hx.lt
  have hRl := hx.rl
  have HRl := Lib.hid hRl
  have h1i : ¬ ((L : Int) < 20) := by omega
  have h2i : ¬ ((L : Int) > 65556) := by omega
  have h4d : 4 ≤ d := by omega
  have h4L : 4 ≤ L := by omega
  have h4di : (4 : Int) ≤ (d : Int) := by omega
  have h4Li : (4 : Int) ≤ (L : Int) := by omega
  have hLdi : (L : Int) ≤ (d : Int) := by omega
  have hc := wcheck_any g t h s (n : Int) w hx.win hh
  have HC := Lib.hid hc
  have hnb := headN_lt (X.take 4)
  rw [hn] at hnb
  clear hx hr hB hL hn hop hRl hc
  go_enter Try.func19, Try.ntmps19
  go_wp2_with fail
  go_loop [6, 29] (fun v i => ∃ k : Nat, k ≤ 4 ∧ i = .int .i64 (k : Int) ∧ v = .int .i64 (headP X k : Nat)) (fun _ i => 4 - (intOf i).toNat)
  case atStart => exact ⟨0, by omega, rfl, rfl⟩
  case round =>
    obtain ⟨k, hk, rfl, rfl⟩ := hrel
    have hpl := headP_lt X k
    by_cases hlt4 : k < 4
    · obtain ⟨b', off', e', -, hcell⟩ := HR.out.at_ (k := k) (by rw [HL.out]; omega)
      cases e'
      have hps : headP X (k + 1) = headP X k * 256 + (X.getD k 0#8).toNat := rfl
      obtain ⟨x, hx⟩ : ∃ x, x = X.getD k 0#8 := ⟨_, rfl⟩
      rw [show X[k]'(by rw [HL.out]; omega) = x by rw [hx]; simp [List.getD, show k < X.length by rw [HL.out]; omega]] at hcell
      rw [← hx] at hps
      have hcell' : w.cell? ⟨b, off + k, none⟩ = some (.int .u8 (bv x)) := hcell
      have hpb : headP X k < 16777216 := by
        refine Nat.lt_of_lt_of_le hpl ?_
        rw [show 16777216 = 256 ^ 3 from rfl]
        exact Nat.pow_le_pow_right (by omega) (by omega)
      obtain ⟨p, hp⟩ : ∃ p, p = headP X k := ⟨_, rfl⟩
      rw [← hp] at hps hpb ⊢
      have HPs := Lib.hid hps
      have hxl := x.isLt
      have hor := or_i64 p x.toNat hpb hxl
      clear hcell hpl hps hp hx
      go_wp2_with fail
      refine ⟨⟨k + 1, by omega, by simp, ?_⟩, by simp [intOf]; omega⟩
      rw [HPs.out, ← hor, Int.natCast_mul]
      rfl
    · obtain rfl : k = 4 := by omega
      have hp4 : headP X 4 = n := by rw [headP_4 X (by rw [HL.out]; omega)]; exact HN.out
      rw [hp4]
      clear hpl hp4
      go_wp2_with fail
      refine HC.out.mono ?_
      rintro e w' ⟨rfl, rfl⟩
      by_cases hw0 : winCheck t h s (n : Int) = 0
      · rw [hw0, errV_zero]
        have HW0 := Lib.hid hw0
        obtain ⟨K, hK⟩ : ∃ K, L - 4 = K := ⟨_, rfl⟩
        have hKb : K ≤ 65552 := by omega
        have hKd : K ≤ d - 4 := by omega
        have hd4 : ¬ (d = 4) := by omega
        obtain ⟨Z, hZ⟩ : ∃ Z, Z = rk.map b8 := ⟨_, rfl⟩
        have hZl : Z.length = 32 := by rw [hZ, List.length_map, HRl.out]
        have hu := Try.underlying39
        have hi32 : (Try.prog.info? 39).map (·.size) = some Z.length := by rw [hZl]; exact size32k
        have HKeep := Lib.hid (show ∀ W', Below w.heap.size w W' → W'.rangeAt g 35 Z from fun W' hb => by rw [hZ]; exact (HX.out.below hb hlt).kr)
        have hk1 := HKeep.out _ (Below.refl _ w).drew
        have H4 := Lib.hid (show Rd b8 w w.heap.size (some ⟨b, off + 4, none⟩) (X.drop 4) by
          have hq := HR.out.drop 4
          rw [Option.map_some] at hq
          have eA : (Addr.mk b off none).add 4 = ⟨b, off + 4, none⟩ := by simp [Addr.add]
          rwa [eA] at hq)
        have HO := Lib.hid (show ∀ (W' : World) (A2 : Option Addr) (c2 : Nat), Below w.heap.size w W' → Rd b8 W' W'.heap.size A2 (nonce (BitVec.ofNat 64 n)) → 12 ≤ c2 → Calls Try.prog 33 #[.agg Z.toArray, .slice A2 12 c2, .slice (some ⟨b, off, none⟩) 4 d, .slice (some ⟨b, off + 4, none⟩) K (d - 4)] W' fun e w' => ∃ v, e = .returned (.tuple #[v, .nilIface]) ∧ Own b8 w' W'.heap.size 5 v (openV rk (nonce (BitVec.ofNat 64 n)) (X.take 4) (X.drop 4)) ∧ Below W'.heap.size W' w' from fun W' A2 c2 hb h2 hc2 => by
          have hq := open_any W' rk HRl.out A2 (some ⟨b, off, none⟩) (some ⟨b, off + 4, none⟩) 12 c2 4 d K (d - 4) _ _ _ (nonce (BitVec.ofNat 64 n)) (X.take 4) (X.drop 4) h2 (Nat.le_refl _) (by simp [nonce, le8]) hc2 ((HR.out.take 4).below hb) hb.size (by rw [List.length_take, HL.out]; omega) (H4.out.below hb) hb.size (by rw [List.length_drop, HL.out]; exact hK) hKd (by omega)
          rw [HOp.out, errV_zero, arrV_mk, ← hZ] at hq
          exact hq)
        have HNn := Lib.hid (show ∀ W' : World, Calls Try.prog 31 #[.int .i64 (n : Int)] W' fun e w' => ∃ v, e = .returned v ∧ Own b8 w' W'.heap.size 5 v (nonce (BitVec.ofNat 64 n)) ∧ Below W'.heap.size W' w' from fun W' => by
          have hq := nonce_any (n : Int) W'
          rwa [show BitVec.ofInt 64 (n : Int) = BitVec.ofNat 64 n by simp] at hq)
        clear hw0 hZ hZl
        go_wp2_with fail
        go_region_held3 (fun w' => w'.rangeAt g 35 Z)
          (first
            | exact HKeep.out _ HX3.out
            | exact HKeep.out _ HX2.out
            | exact hk1
            | go_keep)
          (first
            | (go_simp; go_at_call 31; refine (HNn.out _).mono ?_; rintro e w2 ⟨v2, rfl, ho2, hb2⟩; obtain ⟨A2, c2, rfl, hr2, -, hc2, -⟩ := ho2.shape' (n := 12) (by simp [nonce, le8]); have HX2 := Lib.hid (show Below w.heap.size w w2 from (Below.refl _ w).drew.trans hb2); have HR2 := Lib.hid hr2; clear ho2 hb2 hr2)
            | (go_simp; go_at_call 33; refine (HO.out w2 A2 c2 HX2.out HR2.out hc2).mono ?_; rintro e w3 ⟨v3, rfl, ho3, hb3⟩; have HX3 := Lib.hid (show Below w.heap.size w w3 from HX2.out.trans (hb3.mono HX2.out.size)); have HO3 := Lib.hid ho3; clear ho3 hb3))
        have HL3 := Lib.hid (HX.out.below HX3.out hlt)
        go_wp2_with fail
        refine (wmark_any g t h s (n : Int) w3 HL3.out.win hh).mono ?_
        rintro e w4 ⟨rfl, -, hm4⟩
        obtain ⟨hw4, ho4⟩ := hm4 HW0.out
        have HL4 := Lib.hid (HL3.out.mark hw4 ho4)
        have hs2 := HX2.out.size
        have HO4 := Lib.hid ((HO3.out.less hs2).kept ho4.by_ (.inr (fun e => by have := HO3.out.lt g e; omega)))
        have hG3 : w.grownBy w3 none := grown_none2 HX3.out
        have HG4 := Lib.hid (show w.grownBy w4 (some g) from grownBy_trans ⟨hG3.os, hG3.tape, hG3.output, hG3.size, fun k hk _ => hG3.block k hk (by simp)⟩ ho4.by_ (fun g' e => .inl e))
        rw [HW0.out, errV_zero]
        clear hw4 ho4 hm4 hG3
        go_wp2_with fail
        go_ret2
        refine ⟨fun h0 => absurd HW0.out h0, fun _ => ⟨_, rfl, HO4.out, HL4.out, HG4.out⟩⟩
      · have HW0 := Lib.hid hw0
        have hep := errV_pos hw0
        rw [hep]
        clear hep hw0
        go_wp2_with fail
        go_ret2
        refine ⟨fun _ => ⟨?_, rfl⟩, fun h0 => absurd h0 HW0.out⟩
        rw [errV_pos HW0.out]
        rfl
end Go.Proofs.Ytkoefhbmkmepaaa
