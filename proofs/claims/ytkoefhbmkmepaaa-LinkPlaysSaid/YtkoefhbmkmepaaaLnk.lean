/- A LINK in its block; numbers of four bytes. Plain lemmas. -/
import Derived.Test.YtkoefhbmkmepaaaWins
import Derived.Test.YtkoefhbmkmepaaaAeadD
import Derived.Test.YtkoefhbmkmepaaaArr
import Derived.Test.YtkoefhbmkmepaaaSealW
import Derived.Test.YtkoefhbmkmepaaaSealLaw
import Derived.Deep.RegionHeld3
import Derived.Test.YtkoefhbmkmepaaaOpenW
import Derived.Test.YtkoefhbmkmepaaaOpn
namespace Go.Proofs.Ytkoefhbmkmepaaa
open Go.RowKit
set_option linter.unusedVariables false
set_option linter.unusedSimpArgs false

/-- a number's four bytes, the highest first -/
def headV (n : Nat) : List (BitVec 8) := [BitVec.ofNat 8 (n / 16777216), BitVec.ofNat 8 (n / 65536), BitVec.ofNat 8 (n / 256), BitVec.ofNat 8 n]
def headN : List (BitVec 8) → Nat
  | [a, b, c, d] => ((a.toNat * 256 + b.toNat) * 256 + c.toNat) * 256 + d.toNat
  | _ => 0
theorem headV_len (n : Nat) : (headV n).length = 4 := rfl
theorem headN_headV (n : Nat) (h : n < 4294967296) : headN (headV n) = n := by
  unfold headV headN
  simp only [BitVec.toNat_ofNat]
  omega
theorem headN_lt (b : List (BitVec 8)) : headN b < 4294967296 := by
  unfold headN
  split
  · rename_i a b c d; have := a.isLt; have := b.isLt; have := c.isLt; have := d.isLt; omega
  · omega
/-- a message -/
def msgV (key : List (BitVec 8)) (n : Nat) (text : List (BitVec 8)) : List (BitVec 8) := headV n ++ sealV key (nonce (BitVec.ofNat 64 n)) (headV n) text
/-- a link at the head of block g: a window, two keys, the next number -/
structure LinkAt (w : World) (g : Nat) (t : Bool) (h : Int) (s : BitVec 64) (sk rk : List (BitVec 8)) (nx : Int) : Prop where
  win : WinAt w g t h s
  ks : w.rangeAt g 3 (sk.map b8)
  kr : w.rangeAt g 35 (rk.map b8)
  nc : w.cell? ⟨g, 67, none⟩ = some (.int .i64 nx)
  fx : w.frozen? ⟨g, 67, none⟩ = false
  lt : g < w.heap.size
  sl : sk.length = 32
  rl : rk.length = 32
section
variable {w w' : World} {g : Nat} {t : Bool} {h : Int} {s : BitVec 64} {sk rk : List (BitVec 8)} {nx : Int}
theorem LinkAt.keep (x : LinkAt w g t h s sk rk nx) (hb : w'.heap[g]? = w.heap[g]?) : LinkAt w' g t h s sk rk nx :=
  ⟨x.win.keep hb, fun j v hv => (World.cell?_of_block (a := ⟨g, 3 + j, none⟩) hb).trans (x.ks j v hv), fun j v hv => (World.cell?_of_block (a := ⟨g, 35 + j, none⟩) hb).trans (x.kr j v hv), (World.cell?_of_block (a := ⟨g, 67, none⟩) hb).trans x.nc, (World.frozen?_of_block (a := ⟨g, 67, none⟩) hb).trans x.fx, (Array.getElem?_eq_some_iff.1 (hb.trans (Array.getElem?_eq_getElem x.lt))).1, x.sl, x.rl⟩
theorem LinkAt.below {B : Nat} (x : LinkAt w g t h s sk rk nx) (hb : Below B w w') (hg : g < B) : LinkAt w' g t h s sk rk nx := x.keep (hb.block g hg)
theorem LinkAt.grown {row : Option Nat} (x : LinkAt w g t h s sk rk nx) (hb : w.grownBy w' row) (hg : some g ≠ row) : LinkAt w' g t h s sk rk nx := x.keep (hb.block g x.lt hg)
theorem LinkAt.setNext (x : LinkAt w g t h s sk rk nx) (m : Int) : LinkAt (w.setCell ⟨g, 67, none⟩ (.int .i64 m)) g t h s sk rk m :=
  ⟨⟨(cell_ne (by omega)).trans x.win.c0, (cell_ne (by omega)).trans x.win.c1, (cell_ne (by omega)).trans x.win.c2, frozen_set.trans x.win.f0, frozen_set.trans x.win.f1, frozen_set.trans x.win.f2⟩,
    fun j v hv => (cell_ne (by have h1 := (List.getElem?_eq_some_iff.1 hv).1; rw [List.length_map, x.sl] at h1; omega)).trans (x.ks j v hv), fun j v hv => (cell_ne (by have h1 := (List.getElem?_eq_some_iff.1 hv).1; rw [List.length_map, x.rl] at h1; omega)).trans (x.kr j v hv), cell_eq x.nc, frozen_set.trans x.fx, by simpa using x.lt, x.sl, x.rl⟩
theorem LinkAt.mark {t' : Bool} {h' : Int} {s' : BitVec 64} (x : LinkAt w g t h s sk rk nx) (hw : WinAt w' g t' h' s') (ho : Out3 w w' g) : LinkAt w' g t' h' s' sk rk nx :=
  ⟨hw, fun j v hv => (ho.rest (3 + j) (by omega)).1.trans (x.ks j v hv), fun j v hv => (ho.rest (35 + j) (by omega)).1.trans (x.kr j v hv), (ho.rest 67 (by omega)).1.trans x.nc, (ho.rest 67 (by omega)).2.trans x.fx, Nat.lt_of_lt_of_le x.lt ho.by_.size, x.sl, x.rl⟩
end
end Go.Proofs.Ytkoefhbmkmepaaa

/- CONTRACTS: link.head, link.Send on a link. -/
namespace Go.Proofs.Ytkoefhbmkmepaaa
open Go.RowKit
set_option linter.unusedVariables false
set_option linter.unusedSimpArgs false

theorem grown_bel {a w w' : World} {r : Option Nat} (h : a.grownBy w r) (hb : Below w.heap.size w w') : a.grownBy w' r := ⟨hb.os.trans h.os, hb.tape.trans h.tape, hb.output.trans h.output, Nat.le_trans h.size hb.size, fun k hk hne => (hb.block k (Nat.lt_of_lt_of_le hk h.size)).trans (h.block k hk hne)⟩
theorem wrap8 (n : Nat) : IntKind.u8.wrap (n : Int) = bv (BitVec.ofNat 8 n) := by rw [wrap_u8v]; unfold bv; rw [BitVec.toNat_ofNat]; omega
set_option maxRecDepth 100000 in
theorem head_any (n : Nat) (hn : n < 4294967296) (w : World) :
    Calls Try.prog 29 #[.int .i64 (n : Int)] w fun e w' => ∃ v, e = .returned v ∧ Own b8 w' w.heap.size 5 v (headV n) ∧ Below w.heap.size w w' := by
  have e0 := wrap8 n
  have e1 : IntKind.u8.wrap ((n : Int) / 256) = bv (BitVec.ofNat 8 (n / 256)) := by rw [← wrap8]; congr 1
  have e2 : IntKind.u8.wrap ((n : Int) / 65536) = bv (BitVec.ofNat 8 (n / 65536)) := by rw [← wrap8]; congr 1
  have e3 : IntKind.u8.wrap ((n : Int) / 16777216) = bv (BitVec.ofNat 8 (n / 16777216)) := by rw [← wrap8]; congr 1
  have hni : (n : Int) < 4294967296 := by omega
  go_enter Try.func29, Try.ntmps29
  go_wp2_with fail
  go_ret
  exact ⟨_, rfl, Own.lit b8 w w.heap.size 5 (headV n) (Nat.le_refl _) (by simp [headV, maxLen]), (Below.refl _ _).alloc (Nat.le_refl _) _⟩
set_option maxRecDepth 100000 in
set_option maxHeartbeats 1000000 in
theorem lsend_any (w : World) (g : Nat) (t : Bool) (h : Int) (s : BitVec 64) (sk rk : List (BitVec 8)) (nx : Nat) (hx : LinkAt w g t h s sk rk (nx : Int)) (hnx : nx < 4294967295) (T : Option Addr) (m d B : Nat) (text : List (BitVec 8)) (hr : Rd b8 w B T text) (hB : B ≤ w.heap.size) (hm : text.length = m) (hm2 : m ≤ 65536) :
    Calls Try.prog 18 #[.pointer (some ⟨g, 0, none⟩), .slice T m d] w fun e w' => ∃ v, e = .returned (.tuple #[v, .nilIface]) ∧ Own b8 w' w.heap.size 5 v (msgV sk nx text) ∧ LinkAt w' g t h s sk rk ((nx : Int) + 1) ∧ w.grownBy w' (some g) := by
  have HX := Lib.hid hx
  have HM := Lib.hid hm
  have HR := Lib.hid (hr.more hB)
  have cn := hx.nc
  have fn := hx.fx
  have hlt := hx.lt
  have hSl := hx.sl
  have hm2i : ¬ ((m : Int) > 65536) := by omega
  have hnxi : ¬ ((nx : Int) ≥ 4294967295) := by omega
  have hnxl : (nx : Int) < 4294967295 := by omega
  have HSl := Lib.hid hSl
  clear hx hr hB hm hSl
  go_enter Try.func18, Try.ntmps18
  go_wp2_with fail
  refine (head_any nx (by omega) _).mono ?_
  rintro e w1 ⟨v1, rfl, ho1, hb1⟩
  obtain ⟨A1, c1, rfl, hr1, -, -, -⟩ := ho1.shape' (headV_len nx)
  have hz1 := hb1.size
  have HX1 := Lib.hid (HX.out.below hb1 hlt)
  have HB1 := Lib.hid hb1
  have HR1 := Lib.hid (HR.out.below hb1)
  have HH1 := Lib.hid hr1
  have HA1 := Lib.hid (show ∀ b' off', A1 = some ⟨b', off', none⟩ → b' ≠ g from fun b' off' e => by have := ho1.lt b' (by rw [e]; rfl); omega)
  clear ho1 hb1 hr1 cn fn HR HX
  obtain ⟨Z, hZ⟩ : ∃ Z, Z = sk.map b8 := ⟨_, rfl⟩
  have hZl : Z.length = 32 := by rw [hZ, List.length_map, HSl.out]
  have hu := Try.underlying39
  have hi32 : (Try.prog.info? 39).map (·.size) = some Z.length := by rw [hZl]; exact size32k
  have HKeep := Lib.hid (show ∀ W', Below w1.heap.size w1 W' → W'.rangeAt g 3 Z ∧ W'.cell? ⟨g, 67, none⟩ = some (.int .i64 (nx : Int)) from fun W' hb => ⟨by rw [hZ]; exact (HX1.out.below hb (by omega)).ks, (HX1.out.below hb (by omega)).nc⟩)
  have hk1 := (HKeep.out _ (Below.refl _ w1).drew).1
  have hk2 := (HKeep.out _ (Below.refl _ w1).drew).2
  have hbs : sealBad 12 4 m = 0 := by unfold sealBad; rw [if_neg (by omega)]
  have HSe := Lib.hid (show ∀ (W' : World) (A2 : Option Addr) (c2 : Nat), Below w1.heap.size w1 W' → Rd b8 W' W'.heap.size A2 (nonce (BitVec.ofNat 64 nx)) → 12 ≤ c2 → Calls Try.prog 30 #[.agg Z.toArray, .slice A2 12 c2, .slice A1 4 c1, .slice T m d] W' fun e w' => ∃ v, e = .returned (.tuple #[v, .nilIface]) ∧ Own b8 w' W'.heap.size 5 v (sealV sk (nonce (BitVec.ofNat 64 nx)) (headV nx) text) ∧ Below W'.heap.size W' w' from fun W' A2 c2 hb h2 hc2 => by
    have hq := seal_any W' sk HSl.out A2 A1 T 12 c2 4 c1 m d _ _ _ (nonce (BitVec.ofNat 64 nx)) (headV nx) text h2 (Nat.le_refl _) (by simp [nonce, le8]) hc2 ((HH1.out.below hb).more hb.size) (Nat.le_refl _) (headV_len nx) ((HR1.out.below (hb.mono hz1)).more (Nat.le_trans hz1 hb.size)) (Nat.le_refl _) HM.out
    rw [hbs, errV_zero, arrV_mk, ← hZ] at hq
    exact hq)
  have HN := Lib.hid (show ∀ W' : World, Calls Try.prog 31 #[.int .i64 (nx : Int)] W' fun e w' => ∃ v, e = .returned v ∧ Own b8 w' W'.heap.size 5 v (nonce (BitVec.ofNat 64 nx)) ∧ Below W'.heap.size W' w' from fun W' => by
    have hq := nonce_any (nx : Int) W'
    rwa [show BitVec.ofInt 64 (nx : Int) = BitVec.ofNat 64 nx by simp] at hq)
  clear hZ hZl hbs
  go_wp2_with fail
  go_region_held3 (fun w' => w'.rangeAt g 3 Z ∧ w'.cell? ⟨g, 67, none⟩ = some (.int .i64 (nx : Int)))
    (first
      | exact HKeep.out _ HX3.out
      | exact HKeep.out _ HX2.out
      | exact ⟨hk1, hk2⟩
      | go_keep)
    (first
      | (go_simp; go_at_call 31; refine (HN.out _).mono ?_; rintro e w2 ⟨v2, rfl, ho2, hb2⟩; obtain ⟨A2, c2, rfl, hr2, -, hc2, -⟩ := ho2.shape' (n := 12) (by simp [nonce, le8]); have HX2 := Lib.hid (show Below w1.heap.size w1 w2 from (Below.refl _ w1).drew.trans hb2); have HR2 := Lib.hid hr2; clear ho2 hb2 hr2)
      | (go_simp; go_at_call 30; refine (HSe.out w2 A2 c2 HX2.out HR2.out hc2).mono ?_; rintro e w3 ⟨v3, rfl, ho3, hb3⟩; have HX3 := Lib.hid (show Below w1.heap.size w1 w3 from HX2.out.trans (hb3.mono HX2.out.size)); have HO3 := Lib.hid ho3; clear ho3 hb3))
  obtain ⟨S, hS⟩ : ∃ S, S = sealV sk (nonce (BitVec.ofNat 64 nx)) (headV nx) text := ⟨_, rfl⟩
  have hSl : S.length = m + 16 := by
    rw [hS, sealV_len _ _ _ _ (by rw [HM.out, headV_len, show (nonce (BitVec.ofNat 64 nx)).length = 12 by simp [nonce, le8]]; unfold sealBad; rw [if_neg (by omega)]), HM.out]
  have HSe' := Lib.hid (show msgV sk nx text = headV nx ++ S by rw [hS]; exact (Eq.refl (msgV sk nx text)))
  obtain ⟨N, hN⟩ : ∃ N, N = m + 16 := ⟨_, rfl⟩
  have ho3 := HO3.out
  rw [← hS] at ho3
  obtain ⟨A3, c3, rfl, hr3, -, -, -⟩ := ho3.shape' (n := N) (by rw [hSl, hN])
  have hSN : S.length = N := by rw [hSl, hN]
  have HA3 := Lib.hid (show ∀ b' off', A3 = some ⟨b', off', none⟩ → b' ≠ g from fun b' off' e => by have := ho3.lt b' (by rw [e]; rfl); have := HX2.out.size; omega)
  have HX4 := Lib.hid (HX1.out.below HX3.out (by omega))
  have cn := HX4.out.nc
  have fn := HX4.out.fx
  have hz3 := HX3.out.size
  obtain ⟨w4, hw4⟩ : ∃ w4, w4 = w3.setCell ⟨g, 67, none⟩ (.int .i64 ((nx : Int) + 1)) := ⟨_, rfl⟩
  have hz4 : w4.heap.size = w3.heap.size := by rw [hw4]; simp
  have HX5 := Lib.hid (show LinkAt w4 g t h s sk rk ((nx : Int) + 1) by rw [hw4]; exact HX4.out.setNext _)
  have hG3 : w.grownBy w3 none := grown_none2 (HB1.out.trans (HX3.out.mono hz1))
  have hG4 : w.grownBy w4 (some g) := by
    rw [hw4]; exact grownBy_trans ⟨hG3.os, hG3.tape, hG3.output, hG3.size, fun k hk _ => hG3.block k hk (by simp)⟩ (grownBy_setCell w3 g 67 _) (fun g' e => .inl e)
  have HG4 := Lib.hid hG4
  have hfar : ∀ {A' : Option Addr} {xs : List (BitVec 8)} , Rd b8 w3 w3.heap.size A' xs → (∀ b' off', A' = some ⟨b', off', none⟩ → b' ≠ g) → Rd b8 w4 w4.heap.size A' xs := fun hr hne hp => by
    obtain ⟨b', off', e', hb', hc'⟩ := hr hp
    exact ⟨b', off', e', by omega, fun j u hu => by rw [hw4]; exact (World.cell?_setCell_other w3 _ _ _ (fun e => hne b' off' e' (congrArg Addr.block e).symm)).trans (hc' j u hu)⟩
  have HW4 := Lib.hid hw4
  clear hw4 hG3 hG4 hS hN
  go_wp2_with fail
  rw [← HW4.out]
  have hcc := concat_two w4 w4.heap.size 4 c1 N c3 A1 A3 (headV nx) S (hfar ((HH1.out.below HX3.out).more (by omega)) HA1.out) (hfar hr3 HA3.out) (Nat.le_refl _) (headV_len nx).symm hSN.symm (by rw [hSN, headV_len]; omega)
  rw [hz4] at hcc
  have HCc := Lib.hid hcc
  clear hcc cn fn
  refine HCc.out.mono ?_
  rintro e w5 ⟨v5, rfl, ho5, hb5⟩
  have HO5 := Lib.hid (ho5.less (show w.heap.size ≤ w3.heap.size + 1 by omega))
  have HL5 := Lib.hid (HX5.out.below hb5 (by omega))
  have HG5 := Lib.hid (grown_bel HG4.out (by rw [hz4]; exact hb5))
  clear ho5 hb5 HCc
  go_wp2_with fail
  go_ret2
  rw [HSe'.out]
  exact ⟨_, rfl, HO5.out, HL5.out, HG5.out⟩
end Go.Proofs.Ytkoefhbmkmepaaa

/- CONTRACT: link.Take on a link, of a message that was sealed for it. -/
namespace Go.Proofs.Ytkoefhbmkmepaaa
open Go.RowKit
set_option linter.unusedVariables false
set_option linter.unusedSimpArgs false

def headP (X : List (BitVec 8)) : Nat → Nat
  | 0 => 0
  | k + 1 => headP X k * 256 + (X.getD k 0#8).toNat
theorem headP_lt (X : List (BitVec 8)) : ∀ k, headP X k < 256 ^ k
  | 0 => by simp [headP]
  | k + 1 => by
    have h := headP_lt X k
    have hb := (X.getD k 0#8).isLt
    simp only [headP]
    rw [Nat.pow_succ]
    omega
theorem headP_4 (X : List (BitVec 8)) (h : 4 ≤ X.length) : headP X 4 = headN (X.take 4) := by
  match X, h with
  | a :: b :: c :: d :: r, _ => simp [headP, headN]
theorem or_i64 (a c : Nat) (ha : a < 16777216) (hc : c < 256) : bits .or .i64 ((a * 256 : Nat) : Int) (c : Int) = ((a * 256 + c : Nat) : Int) := by
  have h1 : (BitVec.ofInt 64 ((a * 256 : Nat) : Int)).toNat = a * 256 := by
    rw [BitVec.ofInt_natCast, BitVec.toNat_ofNat]; exact Nat.mod_eq_of_lt (by omega)
  have h2 : (BitVec.ofInt 64 (c : Int)).toNat = c := by
    rw [BitVec.ofInt_natCast, BitVec.toNat_ofNat]; exact Nat.mod_eq_of_lt (by omega)
  have h3 : a * 256 ||| c = a * 256 + c := by
    have := Nat.two_pow_add_eq_or_of_lt (i := 8) (b := c) (by omega) a
    rw [show 2 ^ 8 * a = a * 256 by omega] at this
    exact this.symm
  show IntKind.i64.wrap ((BitVec.ofInt 64 ((a * 256 : Nat) : Int) ||| BitVec.ofInt 64 (c : Int)).toNat : Int) = _
  rw [BitVec.toNat_or, h1, h2, h3, IntWalk.i64_in _ (by omega)]
set_option maxRecDepth 100000 in
set_option maxHeartbeats 1000000 in
theorem ltake_any (w : World) (g : Nat) (t : Bool) (h : Int) (s : BitVec 64) (sk rk : List (BitVec 8)) (nx : Int) (hx : LinkAt w g t h s sk rk nx) (hh : t = true → 0 ≤ h ∧ h < 4294967295) (M : Option Addr) (L d B : Nat) (X : List (BitVec 8)) (hr : Rd b8 w B M X) (hB : B ≤ w.heap.size) (hL : X.length = L) (hL1 : 20 ≤ L) (hL2 : L ≤ 65556) (hLd : L ≤ d) (hd : d ≤ maxLen) (n : Nat) (hn : headN (X.take 4) = n)
    (hop : openBad rk (nonce (BitVec.ofNat 64 n)) (X.take 4) (X.drop 4) = 0) :
    Calls Try.prog 19 #[.pointer (some ⟨g, 0, none⟩), .slice M L d] w fun e w' =>
      (winCheck t h s (n : Int) ≠ 0 → e = .returned (.tuple #[.slice none 0 0, errV (winCheck t h s (n : Int))]) ∧ w' = w) ∧
      (winCheck t h s (n : Int) = 0 → ∃ v, e = .returned (.tuple #[v, .nilIface]) ∧ Own b8 w' w.heap.size 5 v (openV rk (nonce (BitVec.ofNat 64 n)) (X.take 4) (X.drop 4)) ∧ LinkAt w' g (winMark t h s n).1 (winMark t h s n).2.1 (winMark t h s n).2.2 sk rk nx ∧ w.grownBy w' (some g)) := by
  obtain ⟨b, off, rfl, hbB, -⟩ := hr.at_ (k := 0) (by omega)
  have HX := Lib.hid hx
  have HL := Lib.hid hL
  have HR := Lib.hid (hr.more hB)
  have HN := Lib.hid hn
  have HOp := Lib.hid hop
  have hlt := hx.lt
  have hRl := hx.rl
  have HRl := Lib.hid hRl
  have h1i : ¬ ((L : Int) < 20) := by omega
  have h2i : ¬ ((L : Int) > 65556) := by omega
  have h4d : 4 ≤ d := by omega
  have h4L : 4 ≤ L := by omega
  have h4di : (4 : Int) ≤ (d : Int) := by omega
  have h4Li : (4 : Int) ≤ (L : Int) := by omega
  have hLdi : (L : Int) ≤ (d : Int) := by omega
  have hc := wcheck_any g t h s (n : Int) w hx.win hh
  have HC := Lib.hid hc
  have hnb := headN_lt (X.take 4)
  rw [hn] at hnb
  clear hx hr hB hL hn hop hRl hc
  go_enter Try.func19, Try.ntmps19
  go_wp2_with fail
  go_loop [6, 29] (fun v i => ∃ k : Nat, k ≤ 4 ∧ i = .int .i64 (k : Int) ∧ v = .int .i64 (headP X k : Nat)) (fun _ i => 4 - (intOf i).toNat)
  case atStart => exact ⟨0, by omega, rfl, rfl⟩
  case round =>
    obtain ⟨k, hk, rfl, rfl⟩ := hrel
    have hpl := headP_lt X k
    by_cases hlt4 : k < 4
    · obtain ⟨b', off', e', -, hcell⟩ := HR.out.at_ (k := k) (by rw [HL.out]; omega)
      cases e'
      have hps : headP X (k + 1) = headP X k * 256 + (X.getD k 0#8).toNat := rfl
      obtain ⟨x, hx⟩ : ∃ x, x = X.getD k 0#8 := ⟨_, rfl⟩
      rw [show X[k]'(by rw [HL.out]; omega) = x by rw [hx]; simp [List.getD, show k < X.length by rw [HL.out]; omega]] at hcell
      rw [← hx] at hps
      have hcell' : w.cell? ⟨b, off + k, none⟩ = some (.int .u8 (bv x)) := hcell
      have hpb : headP X k < 16777216 := by
        refine Nat.lt_of_lt_of_le hpl ?_
        rw [show 16777216 = 256 ^ 3 from rfl]
        exact Nat.pow_le_pow_right (by omega) (by omega)
      obtain ⟨p, hp⟩ : ∃ p, p = headP X k := ⟨_, rfl⟩
      rw [← hp] at hps hpb ⊢
      have HPs := Lib.hid hps
      have hxl := x.isLt
      have hor := or_i64 p x.toNat hpb hxl
      clear hcell hpl hps hp hx
      go_wp2_with fail
      refine ⟨⟨k + 1, by omega, by simp, ?_⟩, by simp [intOf]; omega⟩
      rw [HPs.out, ← hor, Int.natCast_mul]
      rfl
    · obtain rfl : k = 4 := by omega
      have hp4 : headP X 4 = n := by rw [headP_4 X (by rw [HL.out]; omega)]; exact HN.out
      rw [hp4]
      clear hpl hp4
      go_wp2_with fail
      refine HC.out.mono ?_
      rintro e w' ⟨rfl, rfl⟩
      by_cases hw0 : winCheck t h s (n : Int) = 0
      · rw [hw0, errV_zero]
        have HW0 := Lib.hid hw0
        obtain ⟨K, hK⟩ : ∃ K, L - 4 = K := ⟨_, rfl⟩
        have hKb : K ≤ 65552 := by omega
        have hKd : K ≤ d - 4 := by omega
        have hd4 : ¬ (d = 4) := by omega
        obtain ⟨Z, hZ⟩ : ∃ Z, Z = rk.map b8 := ⟨_, rfl⟩
        have hZl : Z.length = 32 := by rw [hZ, List.length_map, HRl.out]
        have hu := Try.underlying39
        have hi32 : (Try.prog.info? 39).map (·.size) = some Z.length := by rw [hZl]; exact size32k
        have HKeep := Lib.hid (show ∀ W', Below w.heap.size w W' → W'.rangeAt g 35 Z from fun W' hb => by rw [hZ]; exact (HX.out.below hb hlt).kr)
        have hk1 := HKeep.out _ (Below.refl _ w).drew
        have H4 := Lib.hid (show Rd b8 w w.heap.size (some ⟨b, off + 4, none⟩) (X.drop 4) by
          have hq := HR.out.drop 4
          rw [Option.map_some] at hq
          have eA : (Addr.mk b off none).add 4 = ⟨b, off + 4, none⟩ := by simp [Addr.add]
          rwa [eA] at hq)
        have HO := Lib.hid (show ∀ (W' : World) (A2 : Option Addr) (c2 : Nat), Below w.heap.size w W' → Rd b8 W' W'.heap.size A2 (nonce (BitVec.ofNat 64 n)) → 12 ≤ c2 → Calls Try.prog 33 #[.agg Z.toArray, .slice A2 12 c2, .slice (some ⟨b, off, none⟩) 4 d, .slice (some ⟨b, off + 4, none⟩) K (d - 4)] W' fun e w' => ∃ v, e = .returned (.tuple #[v, .nilIface]) ∧ Own b8 w' W'.heap.size 5 v (openV rk (nonce (BitVec.ofNat 64 n)) (X.take 4) (X.drop 4)) ∧ Below W'.heap.size W' w' from fun W' A2 c2 hb h2 hc2 => by
          have hq := open_any W' rk HRl.out A2 (some ⟨b, off, none⟩) (some ⟨b, off + 4, none⟩) 12 c2 4 d K (d - 4) _ _ _ (nonce (BitVec.ofNat 64 n)) (X.take 4) (X.drop 4) h2 (Nat.le_refl _) (by simp [nonce, le8]) hc2 ((HR.out.take 4).below hb) hb.size (by rw [List.length_take, HL.out]; omega) (H4.out.below hb) hb.size (by rw [List.length_drop, HL.out]; exact hK) hKd (by omega)
          rw [HOp.out, errV_zero, arrV_mk, ← hZ] at hq
          exact hq)
        have HNn := Lib.hid (show ∀ W' : World, Calls Try.prog 31 #[.int .i64 (n : Int)] W' fun e w' => ∃ v, e = .returned v ∧ Own b8 w' W'.heap.size 5 v (nonce (BitVec.ofNat 64 n)) ∧ Below W'.heap.size W' w' from fun W' => by
          have hq := nonce_any (n : Int) W'
          rwa [show BitVec.ofInt 64 (n : Int) = BitVec.ofNat 64 n by simp] at hq)
        clear hw0 hZ hZl
        go_wp2_with fail
        go_region_held3 (fun w' => w'.rangeAt g 35 Z)
          (first
            | exact HKeep.out _ HX3.out
            | exact HKeep.out _ HX2.out
            | exact hk1
            | go_keep)
          (first
            | (go_simp; go_at_call 31; refine (HNn.out _).mono ?_; rintro e w2 ⟨v2, rfl, ho2, hb2⟩; obtain ⟨A2, c2, rfl, hr2, -, hc2, -⟩ := ho2.shape' (n := 12) (by simp [nonce, le8]); have HX2 := Lib.hid (show Below w.heap.size w w2 from (Below.refl _ w).drew.trans hb2); have HR2 := Lib.hid hr2; clear ho2 hb2 hr2)
            | (go_simp; go_at_call 33; refine (HO.out w2 A2 c2 HX2.out HR2.out hc2).mono ?_; rintro e w3 ⟨v3, rfl, ho3, hb3⟩; have HX3 := Lib.hid (show Below w.heap.size w w3 from HX2.out.trans (hb3.mono HX2.out.size)); have HO3 := Lib.hid ho3; clear ho3 hb3))
        have HL3 := Lib.hid (HX.out.below HX3.out hlt)
        go_wp2_with fail
        refine (wmark_any g t h s (n : Int) w3 HL3.out.win hh).mono ?_
        rintro e w4 ⟨rfl, -, hm4⟩
        obtain ⟨hw4, ho4⟩ := hm4 HW0.out
        have HL4 := Lib.hid (HL3.out.mark hw4 ho4)
        have hs2 := HX2.out.size
        have HO4 := Lib.hid ((HO3.out.less hs2).kept ho4.by_ (.inr (fun e => by have := HO3.out.lt g e; omega)))
        have hG3 : w.grownBy w3 none := grown_none2 HX3.out
        have HG4 := Lib.hid (show w.grownBy w4 (some g) from grownBy_trans ⟨hG3.os, hG3.tape, hG3.output, hG3.size, fun k hk _ => hG3.block k hk (by simp)⟩ ho4.by_ (fun g' e => .inl e))
        rw [HW0.out, errV_zero]
        clear hw4 ho4 hm4 hG3
        go_wp2_with fail
        go_ret2
        refine ⟨fun h0 => absurd HW0.out h0, fun _ => ⟨_, rfl, HO4.out, HL4.out, HG4.out⟩⟩
      · have HW0 := Lib.hid hw0
        have hep := errV_pos hw0
        rw [hep]
        clear hep hw0
        go_wp2_with fail
        go_ret2
        refine ⟨fun _ => ⟨?_, rfl⟩, fun h0 => absurd h0 HW0.out⟩
        rw [errV_pos HW0.out]
        rfl
end Go.Proofs.Ytkoefhbmkmepaaa

/- CONTRACTS: link.New; Next and Highest of a link. -/
namespace Go.Proofs.Ytkoefhbmkmepaaa
open Go.RowKit
set_option linter.unusedVariables false
set_option linter.unusedSimpArgs false

/-- a new link's cells -/
def linkC (sk rk : List (BitVec 8)) : List Value := [.bool false, .int .i64 0, .int .u64 (bv 0#64)] ++ sk.map b8 ++ rk.map b8 ++ [.int .i64 0]
set_option maxRecDepth 100000 in
theorem built_link (sk rk : List (BitVec 8)) (hs : sk.length = 32) (hr : rk.length = 32) :
    Try.prog.built 67 [(1, .agg (sk.map b8).toArray), (2, .agg (rk.map b8).toArray)] = some (linkC sk rk).toArray := by
  obtain ⟨x0, x1, x2, x3, x4, x5, x6, x7, x8, x9, x10, x11, x12, x13, x14, x15, x16, x17, x18, x19, x20, x21, x22, x23, x24, x25, x26, x27, x28, x29, x30, x31, rfl⟩ := list_of32 hs
  obtain ⟨y0, y1, y2, y3, y4, y5, y6, y7, y8, y9, y10, y11, y12, y13, y14, y15, y16, y17, y18, y19, y20, y21, y22, y23, y24, y25, y26, y27, y28, y29, y30, y31, rfl⟩ := list_of32 hr
  kernel_rfl
theorem LinkAt.new (w : World) (T : TypeId) (sk rk : List (BitVec 8)) (hs : sk.length = 32) (hr : rk.length = 32) : LinkAt (w.alloc (.cells (linkC sk rk).toArray T)) w.heap.size false 0 0#64 sk rk 0 := by
  have hA : Arr (fun v : Value => v) (w.alloc (.cells (linkC sk rk).toArray T)) w.heap.size T (linkC sk rk) := by
    have := Arr.new (fun v : Value => v) w T (linkC sk rk)
    rwa [List.map_id'] at this
  have hc : ∀ i v, (linkC sk rk)[i]? = some v → (w.alloc (.cells (linkC sk rk).toArray T)).cell? ⟨w.heap.size, i, none⟩ = some v := fun i v h => hA.at_ h
  have e3 : ∀ j v, (sk.map b8)[j]? = some v → (linkC sk rk)[3 + j]? = some v := fun j v h => by
    have hj := (List.getElem?_eq_some_iff.1 h).1
    unfold linkC
    rw [List.append_assoc, List.append_assoc, List.getElem?_append_right (by simp), List.getElem?_append_left (by simpa using hj), ← h]
    congr 1
    simp
  have e35 : ∀ j v, (rk.map b8)[j]? = some v → (linkC sk rk)[35 + j]? = some v := fun j v h => by
    have hj := (List.getElem?_eq_some_iff.1 h).1
    unfold linkC
    rw [List.append_assoc, List.getElem?_append_right (by simp [hs]), List.getElem?_append_left (by simp [hs]; simp at hj; omega), ← h]
    congr 1
    simp [hs]
  refine ⟨⟨hc 0 _ rfl, hc 1 _ rfl, hc 2 _ rfl, hA.frozen _, hA.frozen _, hA.frozen _⟩, fun j v h => hc _ _ (e3 j v h), fun j v h => hc _ _ (e35 j v h), hc 67 _ ?_, hA.frozen _, hA.lt, hs, hr⟩
  unfold linkC
  rw [List.getElem?_append_right (by simp [hs, hr])]
  simp [hs, hr]
set_option maxRecDepth 100000 in
set_option maxHeartbeats 1000000 in
theorem lnew_any (w : World) (sk rk : List (BitVec 8)) (hs : sk.length = 32) (hr : rk.length = 32) :
    Calls Try.prog 17 #[.agg (sk.map b8).toArray, .agg (rk.map b8).toArray] w fun e w' => ∃ g, e = .returned (.pointer (some ⟨g, 0, none⟩)) ∧ w.heap.size ≤ g ∧ LinkAt w' g false 0 0#64 sk rk 0 ∧ Below w.heap.size w w' := by
  have HS := Lib.hid hs
  have HR := Lib.hid hr
  have HB := Lib.hid (built_link sk rk hs hr)
  obtain ⟨C, hC⟩ : ∃ C, C = linkC sk rk := ⟨_, rfl⟩
  rw [← hC] at HB
  have HA1 := Lib.hid ((Arr.new b8 w 39 sk).alloc (.cells (rk.map b8).toArray 39))
  have HA2 := Lib.hid (show Arr b8 ((w.alloc (.cells (sk.map b8).toArray 39)).alloc (.cells (rk.map b8).toArray 39)) (w.heap.size + 1) 39 rk from Arr.at_size b8 _ rk (by simp))
  have HL := Lib.hid (show ∀ W : World, LinkAt (W.alloc (.cells C.toArray 67)) W.heap.size false 0 0#64 sk rk 0 by intro W; rw [hC]; exact LinkAt.new _ _ sk rk hs hr)
  have HBel := Lib.hid (show Below w.heap.size w (((w.alloc (.cells (sk.map b8).toArray 39)).alloc (.cells (rk.map b8).toArray 39)).alloc (.cells C.toArray 67)) by (repeat' (first | assumption | exact Below.refl _ _ | refine Below.drew ?_ | refine Below.alloc ?_ ?_ _ | omega | (simp; done) | (simp; omega))))
  clear hs hr hC
  go_enter Try.func17, Try.ntmps17
  go_wp2_with (first
    | (refine wpList_load_arr (op := { dst := some 5, op := _, type := _, pos := _, after := _, guard := _ }) rfl 39 (.tmp 2) rfl w.heap.size rfl _ sk HA1.out _ Try.underlying39 rfl (by rw [HS.out]; exact size32k) ?_)
    | (refine wpList_load_arr (op := { dst := some 6, op := _, type := _, pos := _, after := _, guard := _ }) rfl 39 (.tmp 3) rfl (w.heap.size + 1) rfl _ rk HA2.out _ Try.underlying39 rfl (by rw [HR.out]; exact size32k) ?_)
    | (refine wpList_bparts rfl 67 [(1, .tmp 5), (2, .tmp 6)] rfl C.toArray _ rfl HB.out ?_))
  go_ret
  have hq := HL.out ((w.alloc (.cells (sk.map b8).toArray 39)).alloc (.cells (rk.map b8).toArray 39))
  rw [World.size_alloc, World.size_alloc] at hq
  refine ⟨_, rfl, ?_, hq, HBel.out⟩
  omega
set_option maxRecDepth 100000 in
theorem lnext_any (w : World) (g : Nat) (t : Bool) (h : Int) (s : BitVec 64) (sk rk : List (BitVec 8)) (nx : Int) (hx : LinkAt w g t h s sk rk nx) :
    Calls Try.prog 21 #[.pointer (some ⟨g, 0, none⟩)] w fun e w' => e = .returned (.int .i64 nx) ∧ w = w' := by
  have c := hx.nc
  clear hx
  go_enter Try.func21, Try.ntmps21
  go_wp2_with fail
  go_ret
  exact ⟨rfl, rfl⟩
set_option maxRecDepth 100000 in
theorem lhighest_any (w : World) (g : Nat) (t : Bool) (h : Int) (s : BitVec 64) (sk rk : List (BitVec 8)) (nx : Int) (hx : LinkAt w g t h s sk rk nx) :
    Calls Try.prog 22 #[.pointer (some ⟨g, 0, none⟩)] w fun e w' => e = .returned (.int .i64 (if t then h else -1)) ∧ w = w' := by
  have hh := highest_any g t h s w hx.win
  generalize (if t = true then h else -1) = z at hh ⊢
  have HH := Lib.hid hh
  clear hx hh
  go_enter Try.func22, Try.ntmps22
  go_wp2_with fail
  refine HH.out.mono ?_
  rintro e w' ⟨rfl, rfl⟩
  go_wp2_with fail
  go_ret
  exact ⟨rfl, rfl⟩
end Go.Proofs.Ytkoefhbmkmepaaa
