/- CONTRACT: the reference's mark. -/
import Derived.Test.YtkoefhbmkmepaaaPolyRef
import Derived.Test.YtkoefhbmkmepaaaArr
namespace Go.Proofs.Ytkoefhbmkmepaaa
open Go.RowKit
set_option linter.unusedVariables false
set_option linter.unusedSimpArgs false
attribute [local go_sem high] sliced_z

def rA (ks : List Nat) : Nat → List Nat
  | 0 => ks
  | j + 1 => (rA ks j).set (3 + 4 * j) (dig (rA ks j) (3 + 4 * j) % 16)
def rB (ks : List Nat) : Nat → List Nat
  | 0 => ks
  | j + 1 => (rB ks j).set (4 + 4 * j) (dig (rB ks j) (4 + 4 * j) / 4 * 4)
theorem rA_len (ks : List Nat) : ∀ j, (rA ks j).length = ks.length
  | 0 => rfl
  | j + 1 => by simp only [rA, List.length_set]; exact rA_len ks j
theorem rB_len (ks : List Nat) : ∀ j, (rB ks j).length = ks.length
  | 0 => rfl
  | j + 1 => by simp only [rB, List.length_set]; exact rB_len ks j
theorem rA_D (ks : List Nat) (h : D256 ks) : ∀ j, D256 (rA ks j)
  | 0 => h
  | j + 1 => by simp only [rA]; exact D256_set (rA_D ks h j) _ (by omega)
theorem rB_D (ks : List Nat) (h : D256 ks) : ∀ j, D256 (rB ks j)
  | 0 => h
  | j + 1 => by simp only [rB]; exact D256_set (rB_D ks h j) _ (by have := dig_lt (rB_D ks h j) (4 + 4 * j); omega)
theorem take16 (key : List (BitVec 8)) (h : key.length = 32) : (key.take 16).map BitVec.toNat = [(key.getD 0 0#8).toNat, (key.getD 1 0#8).toNat, (key.getD 2 0#8).toNat, (key.getD 3 0#8).toNat, (key.getD 4 0#8).toNat, (key.getD 5 0#8).toNat, (key.getD 6 0#8).toNat, (key.getD 7 0#8).toNat, (key.getD 8 0#8).toNat, (key.getD 9 0#8).toNat, (key.getD 10 0#8).toNat, (key.getD 11 0#8).toNat, (key.getD 12 0#8).toNat, (key.getD 13 0#8).toNat, (key.getD 14 0#8).toNat, (key.getD 15 0#8).toNat] := by
  have e : (key.take 16).map BitVec.toNat = (List.range 16).map fun i => (key.getD i 0#8).toNat := by
    refine List.ext_getElem (by simp [h]) fun i h1 h2 => ?_
    simp at h2
    simp [List.getD, show i < key.length by omega]
  rw [e]; rfl
theorem r_digits (key : List (BitVec 8)) (h : key.length = 32) : rB (rA ((key.take 16).map BitVec.toNat) 4) 3 = rDigits key := by
  rw [take16 key h]; rfl
theorem piece_val (p : List (BitVec 8)) : valN (p.map BitVec.toNat ++ [1]) = leN p + 256 ^ p.length := by
  rw [valN_snoc, leN_val, List.length_map, Nat.mul_one]
theorem piece_D (p : List (BitVec 8)) : D256 (p.map BitVec.toNat ++ [1]) := by
  intro x hx
  rcases List.mem_append.1 hx with h | h
  · exact D256_bytes p x h
  · rw [List.mem_singleton.1 h]; omega
theorem mark_step (S r k : Nat) (text : List (BitVec 8)) (hS : S % prm = polyK r text k) : (S + (leN (pieceOf text k) + 256 ^ (pieceOf text k).length)) * r % prm = polyK r text (k + 1) := by
  simp only [polyK]
  rw [← hS, Nat.mul_mod, ← Nat.mod_add_mod S prm, ← Nat.mul_mod]
theorem last_less (S : Nat) (more : List Nat) (hD : D256 more) (hv : valN more = S + 5) (hS : S < 1361129467683753853853498429727072845824) :
    (17 ≤ more.length ∧ 4 ≤ dig more 16 → valN (more.set 16 (dig more 16 % 4)) = S % prm) ∧ (¬ (17 ≤ more.length ∧ 4 ≤ dig more 16) → S = S % prm) := by
  have hd := valN_digit more 16 hD
  change _ = dig more 16 at hd
  rw [hv] at hd
  have e : (256 : Nat) ^ 16 = 340282366920938463463374607431768211456 := rfl
  rw [e] at hd
  have h16 := dig_le_val more 16
  rw [hv, e] at h16
  refine ⟨fun ⟨h1, h2⟩ => ?_, fun h => ?_⟩
  · have hs := valN_set more 16 (dig more 16 % 4) (by omega)
    rw [hv, e] at hs
    have hd4 : dig more 16 = 4 := by omega
    rw [hd4] at hs ⊢
    have hp : prm = 1361129467683753853853498429727072845819 := rfl
    have e1 : S % prm = S - prm := by rw [Nat.mod_eq_sub_mod (by omega), Nat.mod_eq_of_lt (by omega)]
    rw [e1, hp]
    simp only [Nat.mod_self] at hs ⊢
    omega
  · rw [Nat.mod_eq_of_lt]
    unfold prm
    rcases Nat.lt_or_ge more.length 17 with h1 | h1
    · have h2 := valN_lt more hD
      have h3 : 256 ^ more.length ≤ 256 ^ 16 := Nat.pow_le_pow_right (by omega) (by omega)
      rw [e] at h3
      omega
    · have h2 : ¬ 4 ≤ dig more 16 := fun h' => h ⟨h1, h'⟩
      omega
/-- the first so many bytes of a number -/
def outTo (all : List Nat) (k : Nat) : List (BitVec 8) := (List.range 16).map fun i => if i < k then BitVec.ofNat 8 (dig all i) else 0#8
theorem outTo_len (all : List Nat) (k : Nat) : (outTo all k).length = 16 := by simp [outTo]
theorem outTo_zero (all : List Nat) : outTo all 0 = List.replicate 16 0#8 := by simp [outTo]; rfl
theorem outTo_set (all : List Nat) (k : Nat) : (outTo all k).set k (BitVec.ofNat 8 (dig all k)) = outTo all (k + 1) := by
  apply List.ext_getElem
  · simp [outTo]
  · intro i h1 h2
    simp only [outTo, List.getElem_set, List.getElem_map, List.getElem_range]
    by_cases h : k = i
    · subst h; simp
    · rw [if_neg h]
      by_cases h' : i < k
      · rw [if_pos h', if_pos (by omega)]
      · rw [if_neg h', if_neg (by omega)]
theorem outTo_end (all : List Nat) (hD : D256 all) (k : Nat) (hk : 16 ≤ k ∨ all.length ≤ k) : outTo all k = bytes16 (valN all % 340282366920938463463374607431768211456) := by
  unfold outTo bytes16
  refine List.map_congr_left fun i hi => ?_
  have hi' := List.mem_range.1 hi
  have e1 : BitVec.ofNat 8 (valN all % 340282366920938463463374607431768211456 / 256 ^ i) = BitVec.ofNat 8 (dig all i) := by
    have hd : valN all / 256 ^ i % 256 = dig all i := valN_digit all i hD
    apply BitVec.eq_of_toNat_eq
    rw [BitVec.toNat_ofNat, BitVec.toNat_ofNat, ← hd]
    have e2 : 340282366920938463463374607431768211456 = 256 ^ i * (256 * 256 ^ (15 - i)) := by
      rw [← Nat.mul_assoc, ← Nat.pow_succ, ← Nat.pow_add, show i + 1 + (15 - i) = 16 by omega]
    rw [e2, Nat.mod_mul_right_div_self, Nat.mod_mul_right_mod]
    exact (Nat.mod_mod _ _).symm
  rw [e1]
  split
  · rfl
  · rename_i h
    have : dig all i = 0 := by
      unfold dig; rw [List.getD, List.getElem?_eq_none (by omega)]; rfl
    rw [this]
theorem size16r : (Try.prog.info? 76).map (·.size) = some 16 := by kernel_rfl
set_option maxRecDepth 100000 in
set_option maxHeartbeats 8000000 in
theorem refMark_any (w : World) (key : List (BitVec 8)) (hk : key.length = 32) (B n c : Nat) (A : Option Addr) (text : List (BitVec 8)) (hr : Rd b8 w B A text) (hB : B ≤ w.heap.size) (hn : n = text.length) (hnc : n ≤ c) (hb : n ≤ 4000000) :
    Calls Try.prog 52 #[.agg (key.map b8).toArray, .slice A n c] w fun e w' => e = .returned (.agg ((markV key text).map b8).toArray) ∧ Below w.heap.size w w' := by
  obtain ⟨i0, hi0, hz0, hz1, hz2⟩ := info_parts infoIntR
  obtain ⟨O, hO⟩ : ∃ O, O = markV key text := ⟨_, rfl⟩
  rw [← hO]
  have HML := Lib.hid (show O.length = 16 by rw [hO]; exact markV_len _ _)
  have HOe := Lib.hid (show ∀ al i, D256 al → (16 ≤ i ∨ al.length ≤ i) → valN al % 340282366920938463463374607431768211456 = markN key text → outTo al i = O by
    intro al i h1 h2 h3
    rw [outTo_end al h1 i h2, h3, hO]; exact (Eq.refl (markV key text)))
  clear hO
  have HK := Lib.hid hk
  have HR := Lib.hid (hr.more hB)
  have HN := Lib.hid hn
  clear hk hr hB hn
  go_enter Try.func52, Try.ntmps52
  go_wp2_with fail
  have HK1 := Lib.hid (Arr.alloc (Arr.new b8 w 39 key) (.cells ((List.replicate 16 0#8).map b8).toArray 76))
  have HO1 := Lib.hid (Arr.at_size b8 (w := w.alloc (.cells (key.map b8).toArray 39)) (k := w.heap.size + 1) 76 (List.replicate 16 0#8) (World.size_alloc ..))
  have HB1 := Lib.hid (show Below w.heap.size w ((w.alloc (.cells (key.map b8).toArray 39)).alloc (.cells ((List.replicate 16 0#8).map b8).toArray 76)) from ((Below.refl _ w).alloc (Nat.le_refl _) _).alloc (by simp) _)
  have hz1 : ((w.alloc (.cells (key.map b8).toArray 39)).alloc (.cells ((List.replicate 16 0#8).map b8).toArray 76)).heap.size = w.heap.size + 2 := by simp
  change Calls _ _ _ ((w.alloc (.cells (key.map b8).toArray 39)).alloc (.cells ((List.replicate 16 0#8).map b8).toArray 76)) _
  generalize (w.alloc (.cells (key.map b8).toArray 39)).alloc (.cells ((List.replicate 16 0#8).map b8).toArray 76) = w1 at HK1 HO1 HB1 hz1 ⊢
  have hws : w.heap.size + 2 ≤ w1.heap.size := by omega
  clear hz1
  have hk16 : (key.take 16).length = 16 := by rw [List.length_take, HK.out]; rfl
  have HKr := Lib.hid (show Rd b8 w1 w1.heap.size (some ⟨w.heap.size, 0, none⟩) key from (HK1.out.rd 0).more (by omega))
  refine (numbers_any w1 w1.heap.size 16 32 (some ⟨w.heap.size, 0, none⟩) (key.take 16) (HKr.out.take 16) (Nat.le_refl _) hk16.symm (by omega)).mono ?_
  rintro e w2 ⟨v2, rfl, ho2, hb2⟩
  obtain ⟨ks, hks⟩ : ∃ ks, ks = (key.take 16).map BitVec.toNat := ⟨_, rfl⟩
  have hkl : ks.length = 16 := by rw [hks, List.length_map, hk16]
  have hkd : D256 ks := by rw [hks]; exact D256_bytes _
  rw [← hks] at ho2
  have HKs := Lib.hid (show rB (rA ks 4) 3 = rDigits key by rw [hks]; exact r_digits key HK.out)
  have HKl := Lib.hid hkl
  have HKd := Lib.hid hkd
  obtain ⟨gr, cr, rfl, hgr1, hgr2, hcr⟩ := ho2.form' hkl (by omega)
  have HO2 := Lib.hid ho2
  have HB2 := Lib.hid hb2
  clear ho2 hb2 hkl hkd hks hk16
  go_wp2_with fail
  go_loopw [6] (fun iv wr => ∃ (j p : Nat), p = 3 + 4 * j ∧ j ≤ 4 ∧ iv = .int .i64 (p : Int) ∧ Own dN wr w1.heap.size 3 (.slice (some ⟨gr, 0, none⟩) 16 cr) (rA ks j) ∧ Below w1.heap.size w1 wr) (fun iv _ => 19 - (intOf iv).toNat)
  case atStart => exact ⟨0, 3, rfl, by omega, rfl, HO2.out, HB2.out⟩
  case round =>
    obtain ⟨j, p, hp, hj, rfl, ho, hb⟩ := hrel
    have HP := Lib.hid hp
    have HO := Lib.hid ho
    have HB := Lib.hid hb
    have hp19 : p ≤ 19 := by omega
    clear hp ho hb
    by_cases hlt : p < 16
    · have hlt' : (p : Int) < 16 := by omega
      have hpl : p < (rA ks j).length := by rw [rA_len, HKl.out]; exact hlt
      obtain ⟨d, hd⟩ : ∃ d, d = dig (rA ks j) p := ⟨_, rfl⟩
      have hc := (HO.out.at_ (k := p) hpl).1
      have hf := (HO.out.at_ (k := p) hpl).2
      have hc' : wr.cell? ⟨gr, p, none⟩ = some (.int .i64 (d : Int)) := by rw [hc, hd]; simp [dN, dig, List.getD, hpl]
      have HS := Lib.hid (show Own dN (wr.setCell ⟨gr, p, none⟩ (.int .i64 ((d : Int) % 16))) w1.heap.size 3 (.slice (some ⟨gr, 0, none⟩) 16 cr) (rA ks (j + 1)) by
        have h := (HO.out.set_ p (d % 16)).1
        have e : dN (d % 16) = .int .i64 ((d : Int) % 16) := by unfold dN; rw [Int.natCast_emod]; rfl
        rw [e] at h
        simp only [rA]
        rw [← HP.out, ← hd]; exact h)
      clear hc hd hpl
      go_wp2_with fail
      exact ⟨⟨j + 1, p + 4, by rw [HP.out]; omega, by have := HP.out; omega, by simp, HS.out, HB.out.setCell (p := ⟨gr, p, none⟩) hgr1 _⟩, by simp [intOf]; omega⟩
    · have hlt' : ¬ ((p : Int) < 16) := by omega
      obtain rfl : j = 4 := by have := HP.out; omega
      clear HP hp19 hlt
      have HO3 := Lib.hid HO.out
      have HB3 := Lib.hid HB.out
      clear HO HB
      go_wp2_with fail
      go_loopw [7] (fun iv wr => ∃ (j p : Nat), p = 4 + 4 * j ∧ j ≤ 3 ∧ iv = .int .i64 (p : Int) ∧ Own dN wr w1.heap.size 3 (.slice (some ⟨gr, 0, none⟩) 16 cr) (rB (rA ks 4) j) ∧ Below w1.heap.size w1 wr) (fun iv _ => 19 - (intOf iv).toNat)
      case atStart => exact ⟨0, 4, rfl, by omega, rfl, HO3.out, HB3.out⟩
      case round =>
        obtain ⟨j, p, hp, hj, rfl, ho, hb⟩ := hrel
        have HP := Lib.hid hp
        have HO := Lib.hid ho
        have HB := Lib.hid hb
        have hp19 : p ≤ 16 := by omega
        clear hp ho hb
        by_cases hlt : p < 16
        · have hlt' : (p : Int) < 16 := by omega
          have hpl : p < (rB (rA ks 4) j).length := by rw [rB_len, rA_len, HKl.out]; exact hlt
          obtain ⟨d, hd⟩ : ∃ d, d = dig (rB (rA ks 4) j) p := ⟨_, rfl⟩
          have hc := (HO.out.at_ (k := p) hpl).1
          have hf := (HO.out.at_ (k := p) hpl).2
          have hd256 : d < 256 := by rw [hd]; exact dig_lt (rB_D _ (rA_D _ HKd.out _) _) _
          have hc' : wr.cell? ⟨gr, p, none⟩ = some (.int .i64 (d : Int)) := by rw [hc, hd]; simp [dN, dig, List.getD, hpl]
          obtain ⟨s, hs⟩ : ∃ s, s = d / 4 * 4 := ⟨_, rfl⟩
          have hsi : (d : Int) / 4 * 4 = (s : Int) := by omega
          have HS := Lib.hid (show Own dN (wr.setCell ⟨gr, p, none⟩ (.int .i64 (s : Int))) w1.heap.size 3 (.slice (some ⟨gr, 0, none⟩) 16 cr) (rB (rA ks 4) (j + 1)) by
            have h := (HO.out.set_ p s).1
            simp only [rB]
            rw [← HP.out, ← hd, ← hs]; exact h)
          clear hc hd hpl hs
          go_wp2_with fail
          exact ⟨⟨j + 1, p + 4, by rw [HP.out]; omega, by have := HP.out; omega, by simp, HS.out, HB.out.setCell (p := ⟨gr, p, none⟩) hgr1 _⟩, by simp [intOf]; omega⟩
        · have hlt' : ¬ ((p : Int) < 16) := by omega
          obtain rfl : j = 3 := by have := HP.out; omega
          clear HP hp19 hlt
          obtain ⟨w3, hw3⟩ : ∃ w3, w3 = wr := ⟨_, rfl⟩
          have HRr := Lib.hid (show Rd dN w3 w3.heap.size (some ⟨gr, 0, none⟩) (rDigits key) by rw [hw3, ← HKs.out]; exact HO.out.rd)
          have HRd := Lib.hid (show D256 (rDigits key) by rw [← HKs.out]; exact rB_D _ (rA_D _ HKd.out _) _)
          have HRl := Lib.hid (show 16 = (rDigits key).length by simp [rDigits])
          have HRv := Lib.hid (rDigits_val key HK.out)
          have HB4 := Lib.hid (show Below w1.heap.size w1 w3 by rw [hw3]; exact HB.out)
          have hz3 : w1.heap.size ≤ w3.heap.size := HB4.out.size
          have HT := Lib.hid ((HR.out.below (HB1.out.trans (HB4.out.mono (by omega)))).more (show w.heap.size ≤ w3.heap.size by omega))
          have H0 := Lib.hid (show Below w3.heap.size w3 wr by rw [hw3]; exact Below.refl _ _)
          clear hw3 HO HB HO3 HB3 HO2 HB2 HKs HKl HKd
          go_wp2_with fail
          go_loopw [8, 9, 10, 11] (fun sv av _ _ wr => ∃ (k at_ : Nat) (As : Option Addr) (m cs : Nat) (zs : List Nat), at_ = 16 * k ∧ av = .int .i64 (at_ : Int) ∧ at_ ≤ n + 15 ∧ sv = .slice As m cs ∧ Rd dN wr wr.heap.size As zs ∧ m = zs.length ∧ m ≤ 17 ∧ D256 zs ∧ valN zs % prm = polyK (rN key) text k ∧ valN zs < 1361129467683753853853498429727072845824 ∧ Below w3.heap.size w3 wr) (fun _ av _ _ _ => n + 16 - (intOf av).toNat)
          case atStart => exact ⟨0, 0, none, 0, 0, [], rfl, rfl, by omega, rfl, Rd.nil_ _ _ _ _, rfl, by omega, fun x hx => by simp at hx, by simp [valN, polyK], by simp [valN], H0.out⟩
          case round =>
            obtain ⟨k, at_, As, m, cs, zs, hat, rfl, hatn, rfl, hrs, hm, hm17, hds, hvs, hvl, hb⟩ := hrel
            have HAt := Lib.hid hat
            have HS := Lib.hid hrs
            have HM := Lib.hid hm
            have HD := Lib.hid hds
            have HV := Lib.hid hvs
            have HVl := Lib.hid hvl
            have HB := Lib.hid hb
            clear hat hrs hm hds hvs hvl hb
            by_cases hlt : at_ < n
            · have hlt' : (at_ : Int) < (n : Int) := by omega
              obtain ⟨b, off, e1, -, -⟩ := HT.out.at_ (k := at_) (by rw [← HN.out]; exact hlt)
              subst e1
              by_cases hend : at_ + 16 ≤ n
              · obtain ⟨E, hE⟩ : ∃ E, E = at_ + 16 := ⟨_, rfl⟩
                have he : (at_ : Int) + 16 = (E : Int) := by omega
                have hEn : ¬ ((E : Int) > (n : Int)) := by omega
                have hEa : at_ ≤ E := by omega
                have hEn2 : E ≤ n := by omega
                have HE' := Lib.hid (show (pieceOf text k).length = E - at_ by unfold pieceOf; rw [List.length_take, List.length_drop, ← HN.out, ← HAt.out]; omega)
                have hE16 : E - at_ ≤ 16 := by omega
                clear hE
                go_wp2_with fail
                generalize hPe : E - at_ = P
                generalize c - at_ = C
                have HE := Lib.hid (show (pieceOf text k).length = P by rw [← hPe]; exact HE'.out)
                have hP16 : P ≤ 16 := by omega
                clear hPe hE16
                refine (numbers_any wr wr.heap.size P C (some ⟨b, off + at_, none⟩) (pieceOf text k) (by
                  have h := ((HT.out.below HB.out).drop at_).take 16
                  have h2 := h.more (show w3.heap.size ≤ wr.heap.size from HB.out.size)
                  have e : pieceOf text k = (text.drop at_).take 16 := by unfold pieceOf; rw [← HAt.out]
                  rw [e]
                  have eA : (Addr.mk b off none).add at_ = ⟨b, off + at_, none⟩ := by by_cases h : at_ = 0 <;> simp [Addr.add, h]
                  rw [Option.map_some, eA] at h2
                  exact h2) (Nat.le_refl _) HE.out.symm (by omega)).mono ?_
                rintro e w4 ⟨v4, rfl, ho4, hb4⟩
                obtain ⟨A4, c4, rfl, -, -, -, -⟩ := ho4.shape' (n := P) (by rw [List.length_map, HE.out])
                have HO4 := Lib.hid ho4
                have HB4' := Lib.hid hb4
                have hz4 := hb4.size
                have HLq := Lib.hid (show ((pieceOf text k).map BitVec.toNat).length = P by rw [List.length_map, HE.out])
                clear ho4 hb4
                go_wp2_with (at_builtin; refine wpList_append_rd rfl (.tmp 61) (.tmp 62) 22 rfl dN_one wr.heap.size 3 i0 _ 8 Try.underlying22 hi0 hz0 hz1 hz2 rfl _ _ rfl (HO4.out.alloc _) (w4.heap.size + 1) _ 1 1 [1] rfl rfl (Rd.new dN w4 3 [1]) (by have := HE.out; simp [maxLen]; omega) (by have := HE.out; simp; omega) (by (first | omega | (simp; done) | (simp; omega) | (simp at *; omega))) ?_; intro v5 w5 hown5 hg5 hbb5; obtain ⟨A5, c5, rfl, -, -, -, -⟩ := hown5.shape' (n := P + 1) (by rw [List.length_append, HLq.out]; rfl))
                have HO5 := Lib.hid hown5
                have HB5 := Lib.hid (show Below wr.heap.size wr w5 from hbb5 _ _ (Nat.le_refl _) (HB4'.out.alloc (by omega) _))
                have hz5 : wr.heap.size ≤ w5.heap.size := HB5.out.size
                have HPv := Lib.hid (piece_val (pieceOf text k))
                have HPl := Lib.hid (show P + 1 = ((pieceOf text k).map BitVec.toNat ++ [1]).length by rw [List.length_append, HLq.out]; rfl)
                clear hown5 hg5 hbb5 HO4 HB4' hz4
                refine (plus_any w5 w5.heap.size m cs w5.heap.size (P + 1) c5 As A5 zs _ ((HS.out.below HB5.out).more hz5) (Nat.le_refl _) HM.out HO5.out.rd (Nat.le_refl _) HPl.out HD.out (piece_D _) (by omega) (by omega)).mono ?_
                rintro e w6 ⟨v6, qs, rfl, hoq, hdq, hvq, hlq, hbq⟩
                obtain ⟨M6, hM6⟩ : ∃ M, M = qs.length := ⟨_, rfl⟩
                obtain ⟨A6, c6, rfl, -, -, hc6, -⟩ := hoq.shape' (n := M6) hM6.symm
                have hM6b : M6 ≤ 18 := by omega
                have HQ6 := Lib.hid hoq.rd
                have HD6 := Lib.hid hdq
                have HV6 := Lib.hid hvq
                have HM6 := Lib.hid hM6
                have HB6 := Lib.hid (show Below wr.heap.size wr w6 from HB5.out.trans (hbq.mono hz5))
                have hz6 : wr.heap.size ≤ w6.heap.size := HB6.out.size
                clear hoq hdq hvq hlq hbq hM6 HO5 HB5 HPl
                go_wp2_with fail
                refine (trim_any w6 w6.heap.size M6 c6 A6 qs HQ6.out HM6.out hc6 (by omega)).mono ?_
                rintro e w7 ⟨m7, rfl, hm7, hv7, ht7, rfl⟩
                have HL7 := Lib.hid (show m7 = (qs.take m7).length by rw [List.length_take, ← HM6.out]; omega)
                have HV7 := Lib.hid hv7
                clear hv7 ht7
                go_wp2_with fail
                refine (rtimes_any w6 w6.heap.size m7 c6 w6.heap.size 16 cr A6 (some ⟨gr, 0, none⟩) (qs.take m7) (rDigits key) (HQ6.out.take m7) (Nat.le_refl _) HL7.out (((HRr.out.below (HB.out.trans (HB6.out.mono HB.out.size))).more (by have := HB.out.size; omega))) (Nat.le_refl _) HRl.out (fun z hz => HD6.out z (List.mem_of_mem_take hz)) HRd.out (by omega) (by omega)).mono ?_
                rintro e w8 ⟨v8, ps, rfl, hop, hdp, hvp, hlp, hbp⟩
                obtain ⟨A8, c8, rfl, -, -, hc8, -⟩ := hop.shape' (n := m7 + 16 + 1) hlp
                have HP8 := Lib.hid hop.rd
                have HD8 := Lib.hid hdp
                have HL8 := Lib.hid hlp
                have HV8 := Lib.hid (show valN ps = (valN zs + (leN (pieceOf text k) + 256 ^ (pieceOf text k).length)) * rN key by rw [hvp, HV7.out, HV6.out, HPv.out, HRv.out])
                have HB8 := Lib.hid (show Below wr.heap.size wr w8 from HB6.out.trans (hbp.mono hz6))
                have hz8 : wr.heap.size ≤ w8.heap.size := HB8.out.size
                clear hop hdp hvp hlp hbp HQ6 HD6 HV6 HB6 HV7 HL7
                go_wp2_with fail
                refine (trim_any w8 w8.heap.size (m7 + 16 + 1) c8 A8 ps HP8.out HL8.out.symm hc8 (by omega)).mono ?_
                rintro e w9 ⟨m9, rfl, hm9, hv9, ht9, rfl⟩
                go_wp2_with fail
                refine (small_any w8 w8.heap.size m9 c8 A8 (ps.take m9) (HP8.out.take m9) (Nat.le_refl _) (by rw [List.length_take, HL8.out]; omega) (by omega) (fun z hz => HD8.out z (List.mem_of_mem_take hz)) (by rw [hv9]; exact ht9) (by omega)).mono ?_
                rintro e w10 ⟨A10, m10, c10, rs, rfl, hr10, hm10, hmc10, hm17', hd10, hv10, hl10, hb10⟩
                rw [hv9, HV8.out, mark_step _ _ _ _ HV.out] at hv10
                have HR10 := Lib.hid hr10
                have HD10 := Lib.hid hd10
                have HV10 := Lib.hid hv10
                have HM10 := Lib.hid hm10
                have HL10 := Lib.hid hl10
                have HB10 := Lib.hid (show Below w3.heap.size w3 w10 from HB.out.trans ((HB8.out.trans (hb10.mono hz8)).mono HB.out.size))
                clear hr10 hd10 hv10 hm10 hl10 hb10 hv9 ht9
                go_wp2_with fail
                exact ⟨⟨k + 1, at_ + 16, A10, m10, c10, rs, by rw [HAt.out]; omega, by (first | (simp; done) | (simp; omega)), by omega, rfl, HR10.out, HM10.out, hm17', HD10.out, HV10.out, HL10.out, HB10.out⟩, by simp [intOf]; omega⟩
              · have he : (at_ : Int) + 16 > (n : Int) := by omega
                have HE' := Lib.hid (show (pieceOf text k).length = n - at_ by unfold pieceOf; rw [List.length_take, List.length_drop, ← HN.out, ← HAt.out]; omega)
                have hE16 : n - at_ ≤ 16 := by omega
                have hEa : at_ ≤ n := by omega
                go_wp2_with fail
                generalize hPe : n - at_ = P
                generalize c - at_ = C
                have HE := Lib.hid (show (pieceOf text k).length = P by rw [← hPe]; exact HE'.out)
                have hP16 : P ≤ 16 := by omega
                clear hPe hE16
                refine (numbers_any wr wr.heap.size P C (some ⟨b, off + at_, none⟩) (pieceOf text k) (by
                  have h := ((HT.out.below HB.out).drop at_).take 16
                  have h2 := h.more (show w3.heap.size ≤ wr.heap.size from HB.out.size)
                  have e : pieceOf text k = (text.drop at_).take 16 := by unfold pieceOf; rw [← HAt.out]
                  rw [e]
                  have eA : (Addr.mk b off none).add at_ = ⟨b, off + at_, none⟩ := by by_cases h : at_ = 0 <;> simp [Addr.add, h]
                  rw [Option.map_some, eA] at h2
                  exact h2) (Nat.le_refl _) HE.out.symm (by omega)).mono ?_
                rintro e w4 ⟨v4, rfl, ho4, hb4⟩
                obtain ⟨A4, c4, rfl, -, -, -, -⟩ := ho4.shape' (n := P) (by rw [List.length_map, HE.out])
                have HO4 := Lib.hid ho4
                have HB4' := Lib.hid hb4
                have hz4 := hb4.size
                have HLq := Lib.hid (show ((pieceOf text k).map BitVec.toNat).length = P by rw [List.length_map, HE.out])
                clear ho4 hb4
                go_wp2_with (at_builtin; refine wpList_append_rd rfl (.tmp 61) (.tmp 62) 22 rfl dN_one wr.heap.size 3 i0 _ 8 Try.underlying22 hi0 hz0 hz1 hz2 rfl _ _ rfl (HO4.out.alloc _) (w4.heap.size + 1) _ 1 1 [1] rfl rfl (Rd.new dN w4 3 [1]) (by have := HE.out; simp [maxLen]; omega) (by have := HE.out; simp; omega) (by (first | omega | (simp; done) | (simp; omega) | (simp at *; omega))) ?_; intro v5 w5 hown5 hg5 hbb5; obtain ⟨A5, c5, rfl, -, -, -, -⟩ := hown5.shape' (n := P + 1) (by rw [List.length_append, HLq.out]; rfl))
                have HO5 := Lib.hid hown5
                have HB5 := Lib.hid (show Below wr.heap.size wr w5 from hbb5 _ _ (Nat.le_refl _) (HB4'.out.alloc (by omega) _))
                have hz5 : wr.heap.size ≤ w5.heap.size := HB5.out.size
                have HPv := Lib.hid (piece_val (pieceOf text k))
                have HPl := Lib.hid (show P + 1 = ((pieceOf text k).map BitVec.toNat ++ [1]).length by rw [List.length_append, HLq.out]; rfl)
                clear hown5 hg5 hbb5 HO4 HB4' hz4
                refine (plus_any w5 w5.heap.size m cs w5.heap.size (P + 1) c5 As A5 zs _ ((HS.out.below HB5.out).more hz5) (Nat.le_refl _) HM.out HO5.out.rd (Nat.le_refl _) HPl.out HD.out (piece_D _) (by omega) (by omega)).mono ?_
                rintro e w6 ⟨v6, qs, rfl, hoq, hdq, hvq, hlq, hbq⟩
                obtain ⟨M6, hM6⟩ : ∃ M, M = qs.length := ⟨_, rfl⟩
                obtain ⟨A6, c6, rfl, -, -, hc6, -⟩ := hoq.shape' (n := M6) hM6.symm
                have hM6b : M6 ≤ 18 := by omega
                have HQ6 := Lib.hid hoq.rd
                have HD6 := Lib.hid hdq
                have HV6 := Lib.hid hvq
                have HM6 := Lib.hid hM6
                have HB6 := Lib.hid (show Below wr.heap.size wr w6 from HB5.out.trans (hbq.mono hz5))
                have hz6 : wr.heap.size ≤ w6.heap.size := HB6.out.size
                clear hoq hdq hvq hlq hbq hM6 HO5 HB5 HPl
                go_wp2_with fail
                refine (trim_any w6 w6.heap.size M6 c6 A6 qs HQ6.out HM6.out hc6 (by omega)).mono ?_
                rintro e w7 ⟨m7, rfl, hm7, hv7, ht7, rfl⟩
                have HL7 := Lib.hid (show m7 = (qs.take m7).length by rw [List.length_take, ← HM6.out]; omega)
                have HV7 := Lib.hid hv7
                clear hv7 ht7
                go_wp2_with fail
                refine (rtimes_any w6 w6.heap.size m7 c6 w6.heap.size 16 cr A6 (some ⟨gr, 0, none⟩) (qs.take m7) (rDigits key) (HQ6.out.take m7) (Nat.le_refl _) HL7.out (((HRr.out.below (HB.out.trans (HB6.out.mono HB.out.size))).more (by have := HB.out.size; omega))) (Nat.le_refl _) HRl.out (fun z hz => HD6.out z (List.mem_of_mem_take hz)) HRd.out (by omega) (by omega)).mono ?_
                rintro e w8 ⟨v8, ps, rfl, hop, hdp, hvp, hlp, hbp⟩
                obtain ⟨A8, c8, rfl, -, -, hc8, -⟩ := hop.shape' (n := m7 + 16 + 1) hlp
                have HP8 := Lib.hid hop.rd
                have HD8 := Lib.hid hdp
                have HL8 := Lib.hid hlp
                have HV8 := Lib.hid (show valN ps = (valN zs + (leN (pieceOf text k) + 256 ^ (pieceOf text k).length)) * rN key by rw [hvp, HV7.out, HV6.out, HPv.out, HRv.out])
                have HB8 := Lib.hid (show Below wr.heap.size wr w8 from HB6.out.trans (hbp.mono hz6))
                have hz8 : wr.heap.size ≤ w8.heap.size := HB8.out.size
                clear hop hdp hvp hlp hbp HQ6 HD6 HV6 HB6 HV7 HL7
                go_wp2_with fail
                refine (trim_any w8 w8.heap.size (m7 + 16 + 1) c8 A8 ps HP8.out HL8.out.symm hc8 (by omega)).mono ?_
                rintro e w9 ⟨m9, rfl, hm9, hv9, ht9, rfl⟩
                go_wp2_with fail
                refine (small_any w8 w8.heap.size m9 c8 A8 (ps.take m9) (HP8.out.take m9) (Nat.le_refl _) (by rw [List.length_take, HL8.out]; omega) (by omega) (fun z hz => HD8.out z (List.mem_of_mem_take hz)) (by rw [hv9]; exact ht9) (by omega)).mono ?_
                rintro e w10 ⟨A10, m10, c10, rs, rfl, hr10, hm10, hmc10, hm17', hd10, hv10, hl10, hb10⟩
                rw [hv9, HV8.out, mark_step _ _ _ _ HV.out] at hv10
                have HR10 := Lib.hid hr10
                have HD10 := Lib.hid hd10
                have HV10 := Lib.hid hv10
                have HM10 := Lib.hid hm10
                have HL10 := Lib.hid hl10
                have HB10 := Lib.hid (show Below w3.heap.size w3 w10 from HB.out.trans ((HB8.out.trans (hb10.mono hz8)).mono HB.out.size))
                clear hr10 hd10 hv10 hm10 hl10 hb10 hv9 ht9
                go_wp2_with fail
                exact ⟨⟨k + 1, at_ + 16, A10, m10, c10, rs, by rw [HAt.out]; omega, by (first | (simp; done) | (simp; omega)), by omega, rfl, HR10.out, HM10.out, hm17', HD10.out, HV10.out, HL10.out, HB10.out⟩, by simp [intOf]; omega⟩
            · have hlt' : ¬ ((at_ : Int) < (n : Int)) := by omega
              have HVk := Lib.hid (show valN zs % prm = polyK (rN key) text ((text.length + 15) / 16) by
                have hk : k = (text.length + 15) / 16 := by have := HAt.out; have := HN.out; omega
                rw [← hk]; exact HV.out)
              clear HV HAt hatn
              go_wp2_with fail
              have hsz1 : (wr.alloc (.cells #[.int .i64 5] 3)).heap.size = wr.heap.size + 1 := World.size_alloc ..
              refine (plus_any (wr.alloc (.cells #[.int .i64 5] 3)) wr.heap.size m cs (wr.heap.size + 1) 1 1 As (some ⟨wr.heap.size, 0, none⟩) zs [5] (HS.out.alloc (Nat.le_refl _) _) (by rw [hsz1]; omega) HM.out (Rd.new dN wr 3 [5]) (by rw [hsz1]; omega) rfl HD.out (by intro x hx; rw [List.mem_singleton.1 hx]; omega) (by omega) (by omega)).mono ?_
              rintro e w4 ⟨v4, ms, rfl, hom, hdm, hvm, hlm, hbm⟩
              obtain ⟨M, hM⟩ : ∃ M, M = ms.length := ⟨_, rfl⟩
              have hMb : M ≤ 18 := by omega
              obtain ⟨hl1, hl2⟩ := last_less (valN zs) ms hdm (by rw [hvm]; simp [valN]) HVl.out
              have HB4' := Lib.hid (show Below wr.heap.size wr w4 from ((Below.refl _ wr).alloc (Nat.le_refl _) _).trans (hbm.mono (by rw [hsz1]; omega)))
              have hz4 : wr.heap.size ≤ w4.heap.size := HB4'.out.size
              have HS4 := Lib.hid ((HS.out.below HB4'.out).more hz4)
              have HBw := Lib.hid (show Below w3.heap.size w3 w4 from HB.out.trans (HB4'.out.mono HB.out.size))
              have hz34 : w3.heap.size ≤ w4.heap.size := HBw.out.size
              have hz3r : w3.heap.size ≤ wr.heap.size := HB.out.size
              clear hsz1 hvm hlm hbm HB4' HS HB
              by_cases h17 : 17 ≤ M
              · obtain ⟨g, cg, rfl, hg1, hg2, hcg⟩ := hom.form' hM.symm (by omega)
                obtain ⟨d, hd⟩ : ∃ d, d = dig ms 16 := ⟨_, rfl⟩
                have hpl : 16 < ms.length := by omega
                have hc := (hom.at_ (k := 16) hpl).1
                have hf := (hom.at_ (k := 16) hpl).2
                have hc' : w4.cell? ⟨g, 16, none⟩ = some (.int .i64 (d : Int)) := by rw [hc, hd]; simp [dN, dig, List.getD, hpl]
                have h17' : (M : Int) ≥ 17 := by omega
                by_cases h4 : 4 ≤ d
                · have h4' : (d : Int) ≥ 4 := by omega
                  have HFv := Lib.hid (show valN (ms.set 16 (d % 4)) = polyK (rN key) text ((text.length + 15) / 16) by rw [← HVk.out, hd]; exact hl1 ⟨by omega, by rw [← hd]; exact h4⟩)
                  have HFd := Lib.hid (show D256 (ms.set 16 (d % 4)) from D256_set hdm _ (by omega))
                  have HFl := Lib.hid (show M = (ms.set 16 (d % 4)).length by rw [List.length_set]; exact hM)
                  have HFo := Lib.hid (show Own dN (w4.setCell ⟨g, 16, none⟩ (.int .i64 ((d : Int) % 4))) (wr.heap.size + 1) 3 (.slice (some ⟨g, 0, none⟩) M cg) (ms.set 16 (d % 4)) by
                    have h := (hom.set_ 16 (d % 4)).1
                    rw [World.size_alloc] at h
                    have e : dN (d % 4) = .int .i64 ((d : Int) % 4) := by unfold dN; rw [Int.natCast_emod]; rfl
                    rw [e] at h; exact h)
                  have HFb := Lib.hid (show Below w3.heap.size w3 (w4.setCell ⟨g, 16, none⟩ (.int .i64 ((d : Int) % 4))) from HBw.out.setCell (p := ⟨g, 16, none⟩) (by rw [World.size_alloc] at hg1; show w3.heap.size ≤ g; omega) _)
                  have HFr := Lib.hid HFo.out.rd
                  clear hc hd hpl hM hdm hom hl1 hl2 hg1 HFo
                  go_wp2_with fail
                  generalize w4.setCell ⟨g, 16, none⟩ (.int .i64 ((d : Int) % 4)) = wf at HFr HFb ⊢
                  have hzf : w3.heap.size ≤ wf.heap.size := HFb.out.size
                  refine (numbers_any wf wf.heap.size 16 16 (some ⟨w.heap.size, 16, none⟩) (key.drop 16) (by
                    have h := ((HKr.out.below HB4.out).drop 16).more (show w1.heap.size ≤ w3.heap.size by omega)
                    exact (h.below HFb.out).more hzf) (Nat.le_refl _) (by rw [List.length_drop, HK.out]) (by omega)).mono ?_
                  rintro e w5 ⟨v5, rfl, ho5, hb5⟩
                  have hl16 : ((key.drop 16).map BitVec.toNat).length = 16 := by rw [List.length_map, List.length_drop, HK.out]
                  obtain ⟨A5, c5, rfl, -, -, -, -⟩ := ho5.shape' hl16
                  have HN5 := Lib.hid ho5.rd
                  have HL5 := Lib.hid hl16
                  have hz5 := hb5.size
                  have HF5 := Lib.hid ((HFr.out.below hb5).more hz5)
                  have HB5 := Lib.hid (HFb.out.trans (hb5.mono hzf))
                  clear ho5 hb5 hl16
                  go_wp2_with fail
                  refine (plus_any w5 w5.heap.size M cg w5.heap.size 16 c5 (some ⟨g, 0, none⟩) A5 (ms.set 16 (d % 4)) _ HF5.out (Nat.le_refl _) HFl.out HN5.out (Nat.le_refl _) HL5.out.symm HFd.out (D256_bytes _) (by omega) (by omega)).mono ?_
                  rintro e w6 ⟨v6, al, rfl, hoa, hda, hva, hla, hba⟩
                  obtain ⟨L, hL⟩ : ∃ L, L = al.length := ⟨_, rfl⟩
                  obtain ⟨A6, c6, rfl, -, -, -, -⟩ := hoa.shape' (n := L) hL.symm
                  have hLb : L ≤ 19 := by omega
                  have HA6 := Lib.hid hoa.rd
                  have HD6 := Lib.hid hda
                  have HL6 := Lib.hid hL
                  have HV6 := Lib.hid (show valN al % 340282366920938463463374607431768211456 = markN key text by rw [hva, HFv.out, ← leN_val]; rfl)
                  have HB6 := Lib.hid (HB5.out.trans (hba.mono (by have := HB5.out.size; omega)) : Below w3.heap.size w3 w6)
                  have hz6 : w3.heap.size ≤ w6.heap.size := HB6.out.size
                  clear hoa hda hva hla hba hL HF5 HB5 HN5 HL5
                  have HZ6 := Lib.hid (Arr.new b8 w6 76 (List.replicate 16 0#8))
                  have HB7 := Lib.hid ((Below.refl w6.heap.size w6).alloc (Nat.le_refl _) (.cells ((List.replicate 16 0#8).map b8).toArray 76))
                  go_wp2_with fail
                  go_loopw [15] (fun iv wr => ∃ i : Nat, i ≤ 16 ∧ i ≤ L ∧ iv = .int .i64 (i : Int) ∧ Arr b8 wr w6.heap.size 76 (outTo al i) ∧ Below w6.heap.size w6 wr) (fun iv _ => 16 - (intOf iv).toNat)
                  case atStart => exact ⟨0, by omega, by omega, rfl, by rw [outTo_zero]; exact HZ6.out, HB7.out⟩
                  case round =>
                    obtain ⟨i, hi16, hiL, rfl, ha, hb⟩ := hrel
                    have HA := Lib.hid ha
                    have HB := Lib.hid hb
                    clear ha hb
                    by_cases hlt : i < 16 ∧ i < L
                    · obtain ⟨hlt16, hltL⟩ := hlt
                      have hlt1 : (i : Int) < 16 := by omega
                      have hlt2 : (i : Int) < (L : Int) := by omega
                      obtain ⟨d, hd⟩ : ∃ d, d = dig al i := ⟨_, rfl⟩
                      have hd256 : d < 256 := by rw [hd]; exact dig_lt HD6.out i
                      obtain ⟨b6, o6, rfl, -, hc⟩ := (HA6.out.below HB.out).at_ (k := i) (by rw [← HL6.out]; exact hltL)
                      have hc' : wr.cell? ⟨b6, o6 + i, none⟩ = some (.int .i64 (d : Int)) := by rw [hc, hd]; simp [dN, dig, List.getD, show i < al.length by rw [← HL6.out]; exact hltL]
                      obtain ⟨y, hy⟩ : ∃ y, (outTo al i)[i]? = some y := ⟨_, List.getElem?_eq_getElem (by rw [outTo_len]; exact hlt16)⟩
                      have hco : wr.cell? ⟨w6.heap.size, i, none⟩ = some (.int .u8 (bv y)) := HA.out.at_ hy
                      have hfo := HA.out.frozen i
                      have HS := Lib.hid (show Arr b8 (wr.setCell ⟨w6.heap.size, i, none⟩ (.int .u8 (d : Int))) w6.heap.size 76 (outTo al (i + 1)) by
                        have h := HA.out.set_ i (BitVec.ofNat 8 (dig al i))
                        rw [outTo_set] at h
                        have e : b8 (BitVec.ofNat 8 (dig al i)) = .int .u8 (d : Int) := by
                          have hm : d % 2 ^ 8 = d := Nat.mod_eq_of_lt hd256
                          show Value.int .u8 (((BitVec.ofNat 8 (dig al i)).toNat : Nat) : Int) = _
                          rw [← hd, BitVec.toNat_ofNat, hm]
                        rw [e] at h; exact h)
                      clear hc hd hy
                      go_wp2_with fail
                      exact ⟨⟨i + 1, by omega, by omega, by simp, HS.out, HB.out.setCell (p := ⟨w6.heap.size, i, none⟩) (Nat.le_refl _) _⟩, by simp [intOf]; omega⟩
                    · have HZ := Lib.hid (HOe.out al i HD6.out (by rw [← HL6.out]; omega) HV6.out)
                      have HAm := Lib.hid (HA.out.cast HZ.out)
                      have HR1 := Lib.hid (show Arr b8 wr (w.heap.size + 1) 76 (List.replicate 16 0#8) from ((HO1.out.below HB4.out (by omega)).below (HB6.out.mono (Nat.le_refl _)) (by omega)).below HB.out (by omega))
                      have HBe := Lib.hid (show Below w.heap.size w wr from (HB1.out.trans (HB4.out.mono (by omega))).trans ((HB6.out.mono (by omega)).trans (HB.out.mono (by omega))))
                      by_cases hlt16 : i < 16
                      · have hlt1 : (i : Int) < 16 := by omega
                        have hlt2 : ¬ ((i : Int) < (L : Int)) := by omega
                        go_wp2_with (first
                          | (refine wpList_load_arr rfl 76 (.tmp 14) rfl w6.heap.size rfl _ O HAm.out _ Try.underlying76 rfl (by rw [size16r, HML.out]) ?_)
                          | (refine wpList_store_arr rfl 76 (.tmp 4) (.tmp 112) rfl (w.heap.size + 1) rfl O rfl _ _ HR1.out (by rw [HML.out]; rfl) (by rw [size16r, HML.out]) b8_one' ?_; intro w9 hp9 hg9; have HP9 := Lib.hid hp9; have HG9 := Lib.hid hg9; clear hp9 hg9))
                        refine bodyPost_ret (v := .agg (O.map b8).toArray) (results_arr (g := w.heap.size + 1) rfl _ _ _ _ _ rfl HP9.out Try.underlying76 rfl (by rw [size16r, HML.out])) rfl ?_
                        exact ⟨rfl, HBe.out.grown HG9.out HBe.out.size (fun k e => by cases e; omega)⟩
                      · have hlt1 : ¬ ((i : Int) < 16) := by omega
                        go_wp2_with (first
                          | (refine wpList_load_arr rfl 76 (.tmp 14) rfl w6.heap.size rfl _ O HAm.out _ Try.underlying76 rfl (by rw [size16r, HML.out]) ?_)
                          | (refine wpList_store_arr rfl 76 (.tmp 4) (.tmp 112) rfl (w.heap.size + 1) rfl O rfl _ _ HR1.out (by rw [HML.out]; rfl) (by rw [size16r, HML.out]) b8_one' ?_; intro w9 hp9 hg9; have HP9 := Lib.hid hp9; have HG9 := Lib.hid hg9; clear hp9 hg9))
                        refine bodyPost_ret (v := .agg (O.map b8).toArray) (results_arr (g := w.heap.size + 1) rfl _ _ _ _ _ rfl HP9.out Try.underlying76 rfl (by rw [size16r, HML.out])) rfl ?_
                        exact ⟨rfl, HBe.out.grown HG9.out HBe.out.size (fun k e => by cases e; omega)⟩
                · have h4' : ¬ ((d : Int) ≥ 4) := by omega
                  have HFv := Lib.hid (show valN zs = polyK (rN key) text ((text.length + 15) / 16) from (hl2 (fun h => h4 (by rw [hd]; exact h.2))).trans HVk.out)
                  have HFr := Lib.hid HS4.out
                  have HFd := Lib.hid HD.out
                  have HFl := Lib.hid HM.out
                  have HFb := Lib.hid HBw.out
                  clear hc hd hpl hM hdm hom hl1 hl2 hg1
                  have hq1 : decide ((4 : Int) ≤ (d : Int)) = false := by simp; omega
                  have hq2 : (d : Int) < 4 := by omega
                  have hq3 : ((d : Int) ≥ 4) = False := by simp; omega
                  clear h4 h4'
                  go_wp2_with fail
                  clear hq1 hq2 hq3 hc' hf hz4 HBw HS4 hz34 h17'
                  generalize w4 = wf at HFr HFb ⊢
                  have hzf : w3.heap.size ≤ wf.heap.size := HFb.out.size
                  refine (numbers_any wf wf.heap.size 16 16 (some ⟨w.heap.size, 16, none⟩) (key.drop 16) (by
                    have h := ((HKr.out.below HB4.out).drop 16).more (show w1.heap.size ≤ w3.heap.size by omega)
                    exact (h.below HFb.out).more hzf) (Nat.le_refl _) (by rw [List.length_drop, HK.out]) (by omega)).mono ?_
                  rintro e w5 ⟨v5, rfl, ho5, hb5⟩
                  have hl16 : ((key.drop 16).map BitVec.toNat).length = 16 := by rw [List.length_map, List.length_drop, HK.out]
                  obtain ⟨A5, c5, rfl, -, -, -, -⟩ := ho5.shape' hl16
                  have HN5 := Lib.hid ho5.rd
                  have HL5 := Lib.hid hl16
                  have hz5 := hb5.size
                  have HF5 := Lib.hid ((HFr.out.below hb5).more hz5)
                  have HB5 := Lib.hid (HFb.out.trans (hb5.mono hzf))
                  clear ho5 hb5 hl16
                  go_wp2_with fail
                  refine (plus_any w5 w5.heap.size m cs w5.heap.size 16 c5 As A5 zs _ HF5.out (Nat.le_refl _) HFl.out HN5.out (Nat.le_refl _) HL5.out.symm HFd.out (D256_bytes _) (by omega) (by omega)).mono ?_
                  rintro e w6 ⟨v6, al, rfl, hoa, hda, hva, hla, hba⟩
                  obtain ⟨L, hL⟩ : ∃ L, L = al.length := ⟨_, rfl⟩
                  obtain ⟨A6, c6, rfl, -, -, -, -⟩ := hoa.shape' (n := L) hL.symm
                  have hLb : L ≤ 19 := by omega
                  have HA6 := Lib.hid hoa.rd
                  have HD6 := Lib.hid hda
                  have HL6 := Lib.hid hL
                  have HV6 := Lib.hid (show valN al % 340282366920938463463374607431768211456 = markN key text by rw [hva, HFv.out, ← leN_val]; rfl)
                  have HB6 := Lib.hid (HB5.out.trans (hba.mono (by have := HB5.out.size; omega)) : Below w3.heap.size w3 w6)
                  have hz6 : w3.heap.size ≤ w6.heap.size := HB6.out.size
                  clear hoa hda hva hla hba hL HF5 HB5 HN5 HL5
                  have HZ6 := Lib.hid (Arr.new b8 w6 76 (List.replicate 16 0#8))
                  have HB7 := Lib.hid ((Below.refl w6.heap.size w6).alloc (Nat.le_refl _) (.cells ((List.replicate 16 0#8).map b8).toArray 76))
                  go_wp2_with fail
                  go_loopw [15] (fun iv wr => ∃ i : Nat, i ≤ 16 ∧ i ≤ L ∧ iv = .int .i64 (i : Int) ∧ Arr b8 wr w6.heap.size 76 (outTo al i) ∧ Below w6.heap.size w6 wr) (fun iv _ => 16 - (intOf iv).toNat)
                  case atStart => exact ⟨0, by omega, by omega, rfl, by rw [outTo_zero]; exact HZ6.out, HB7.out⟩
                  case round =>
                    obtain ⟨i, hi16, hiL, rfl, ha, hb⟩ := hrel
                    have HA := Lib.hid ha
                    have HB := Lib.hid hb
                    clear ha hb
                    by_cases hlt : i < 16 ∧ i < L
                    · obtain ⟨hlt16, hltL⟩ := hlt
                      have hlt1 : (i : Int) < 16 := by omega
                      have hlt2 : (i : Int) < (L : Int) := by omega
                      obtain ⟨d, hd⟩ : ∃ d, d = dig al i := ⟨_, rfl⟩
                      have hd256 : d < 256 := by rw [hd]; exact dig_lt HD6.out i
                      obtain ⟨b6, o6, rfl, -, hc⟩ := (HA6.out.below HB.out).at_ (k := i) (by rw [← HL6.out]; exact hltL)
                      have hc' : wr.cell? ⟨b6, o6 + i, none⟩ = some (.int .i64 (d : Int)) := by rw [hc, hd]; simp [dN, dig, List.getD, show i < al.length by rw [← HL6.out]; exact hltL]
                      obtain ⟨y, hy⟩ : ∃ y, (outTo al i)[i]? = some y := ⟨_, List.getElem?_eq_getElem (by rw [outTo_len]; exact hlt16)⟩
                      have hco : wr.cell? ⟨w6.heap.size, i, none⟩ = some (.int .u8 (bv y)) := HA.out.at_ hy
                      have hfo := HA.out.frozen i
                      have HS := Lib.hid (show Arr b8 (wr.setCell ⟨w6.heap.size, i, none⟩ (.int .u8 (d : Int))) w6.heap.size 76 (outTo al (i + 1)) by
                        have h := HA.out.set_ i (BitVec.ofNat 8 (dig al i))
                        rw [outTo_set] at h
                        have e : b8 (BitVec.ofNat 8 (dig al i)) = .int .u8 (d : Int) := by
                          have hm : d % 2 ^ 8 = d := Nat.mod_eq_of_lt hd256
                          show Value.int .u8 (((BitVec.ofNat 8 (dig al i)).toNat : Nat) : Int) = _
                          rw [← hd, BitVec.toNat_ofNat, hm]
                        rw [e] at h; exact h)
                      clear hc hd hy
                      go_wp2_with fail
                      exact ⟨⟨i + 1, by omega, by omega, by simp, HS.out, HB.out.setCell (p := ⟨w6.heap.size, i, none⟩) (Nat.le_refl _) _⟩, by simp [intOf]; omega⟩
                    · have HZ := Lib.hid (HOe.out al i HD6.out (by rw [← HL6.out]; omega) HV6.out)
                      have HAm := Lib.hid (HA.out.cast HZ.out)
                      have HR1 := Lib.hid (show Arr b8 wr (w.heap.size + 1) 76 (List.replicate 16 0#8) from ((HO1.out.below HB4.out (by omega)).below (HB6.out.mono (Nat.le_refl _)) (by omega)).below HB.out (by omega))
                      have HBe := Lib.hid (show Below w.heap.size w wr from (HB1.out.trans (HB4.out.mono (by omega))).trans ((HB6.out.mono (by omega)).trans (HB.out.mono (by omega))))
                      by_cases hlt16 : i < 16
                      · have hlt1 : (i : Int) < 16 := by omega
                        have hlt2 : ¬ ((i : Int) < (L : Int)) := by omega
                        go_wp2_with (first
                          | (refine wpList_load_arr rfl 76 (.tmp 14) rfl w6.heap.size rfl _ O HAm.out _ Try.underlying76 rfl (by rw [size16r, HML.out]) ?_)
                          | (refine wpList_store_arr rfl 76 (.tmp 4) (.tmp 112) rfl (w.heap.size + 1) rfl O rfl _ _ HR1.out (by rw [HML.out]; rfl) (by rw [size16r, HML.out]) b8_one' ?_; intro w9 hp9 hg9; have HP9 := Lib.hid hp9; have HG9 := Lib.hid hg9; clear hp9 hg9))
                        refine bodyPost_ret (v := .agg (O.map b8).toArray) (results_arr (g := w.heap.size + 1) rfl _ _ _ _ _ rfl HP9.out Try.underlying76 rfl (by rw [size16r, HML.out])) rfl ?_
                        exact ⟨rfl, HBe.out.grown HG9.out HBe.out.size (fun k e => by cases e; omega)⟩
                      · have hlt1 : ¬ ((i : Int) < 16) := by omega
                        go_wp2_with (first
                          | (refine wpList_load_arr rfl 76 (.tmp 14) rfl w6.heap.size rfl _ O HAm.out _ Try.underlying76 rfl (by rw [size16r, HML.out]) ?_)
                          | (refine wpList_store_arr rfl 76 (.tmp 4) (.tmp 112) rfl (w.heap.size + 1) rfl O rfl _ _ HR1.out (by rw [HML.out]; rfl) (by rw [size16r, HML.out]) b8_one' ?_; intro w9 hp9 hg9; have HP9 := Lib.hid hp9; have HG9 := Lib.hid hg9; clear hp9 hg9))
                        refine bodyPost_ret (v := .agg (O.map b8).toArray) (results_arr (g := w.heap.size + 1) rfl _ _ _ _ _ rfl HP9.out Try.underlying76 rfl (by rw [size16r, HML.out])) rfl ?_
                        exact ⟨rfl, HBe.out.grown HG9.out HBe.out.size (fun k e => by cases e; omega)⟩
              · have h17' : ¬ ((M : Int) ≥ 17) := by omega
                obtain ⟨A4, c4, rfl, -, -, -, -⟩ := hom.shape' hM.symm
                have HFv := Lib.hid (show valN zs = polyK (rN key) text ((text.length + 15) / 16) from (hl2 (fun h => h17 (by rw [hM]; exact h.1))).trans HVk.out)
                have HFr := Lib.hid HS4.out
                have HFd := Lib.hid HD.out
                have HFl := Lib.hid HM.out
                have HFb := Lib.hid HBw.out
                clear hM hdm hom hl1 hl2
                have hq1 : decide ((17 : Int) ≤ (M : Int)) = false := by simp; omega
                have hq2 : (M : Int) < 17 := by omega
                have hq3 : ((M : Int) ≥ 17) = False := by simp; omega
                clear h17 h17'
                go_wp2_with fail
                clear hq1 hq2 hq3 hz4 HBw HS4 hz34
                generalize w4 = wf at HFr HFb ⊢
                have hzf : w3.heap.size ≤ wf.heap.size := HFb.out.size
                refine (numbers_any wf wf.heap.size 16 16 (some ⟨w.heap.size, 16, none⟩) (key.drop 16) (by
                  have h := ((HKr.out.below HB4.out).drop 16).more (show w1.heap.size ≤ w3.heap.size by omega)
                  exact (h.below HFb.out).more hzf) (Nat.le_refl _) (by rw [List.length_drop, HK.out]) (by omega)).mono ?_
                rintro e w5 ⟨v5, rfl, ho5, hb5⟩
                have hl16 : ((key.drop 16).map BitVec.toNat).length = 16 := by rw [List.length_map, List.length_drop, HK.out]
                obtain ⟨A5, c5, rfl, -, -, -, -⟩ := ho5.shape' hl16
                have HN5 := Lib.hid ho5.rd
                have HL5 := Lib.hid hl16
                have hz5 := hb5.size
                have HF5 := Lib.hid ((HFr.out.below hb5).more hz5)
                have HB5 := Lib.hid (HFb.out.trans (hb5.mono hzf))
                clear ho5 hb5 hl16
                go_wp2_with fail
                refine (plus_any w5 w5.heap.size m cs w5.heap.size 16 c5 As A5 zs _ HF5.out (Nat.le_refl _) HFl.out HN5.out (Nat.le_refl _) HL5.out.symm HFd.out (D256_bytes _) (by omega) (by omega)).mono ?_
                rintro e w6 ⟨v6, al, rfl, hoa, hda, hva, hla, hba⟩
                obtain ⟨L, hL⟩ : ∃ L, L = al.length := ⟨_, rfl⟩
                obtain ⟨A6, c6, rfl, -, -, -, -⟩ := hoa.shape' (n := L) hL.symm
                have hLb : L ≤ 19 := by omega
                have HA6 := Lib.hid hoa.rd
                have HD6 := Lib.hid hda
                have HL6 := Lib.hid hL
                have HV6 := Lib.hid (show valN al % 340282366920938463463374607431768211456 = markN key text by rw [hva, HFv.out, ← leN_val]; rfl)
                have HB6 := Lib.hid (HB5.out.trans (hba.mono (by have := HB5.out.size; omega)) : Below w3.heap.size w3 w6)
                have hz6 : w3.heap.size ≤ w6.heap.size := HB6.out.size
                clear hoa hda hva hla hba hL HF5 HB5 HN5 HL5
                have HZ6 := Lib.hid (Arr.new b8 w6 76 (List.replicate 16 0#8))
                have HB7 := Lib.hid ((Below.refl w6.heap.size w6).alloc (Nat.le_refl _) (.cells ((List.replicate 16 0#8).map b8).toArray 76))
                go_wp2_with fail
                go_loopw [15] (fun iv wr => ∃ i : Nat, i ≤ 16 ∧ i ≤ L ∧ iv = .int .i64 (i : Int) ∧ Arr b8 wr w6.heap.size 76 (outTo al i) ∧ Below w6.heap.size w6 wr) (fun iv _ => 16 - (intOf iv).toNat)
                case atStart => exact ⟨0, by omega, by omega, rfl, by rw [outTo_zero]; exact HZ6.out, HB7.out⟩
                case round =>
                  obtain ⟨i, hi16, hiL, rfl, ha, hb⟩ := hrel
                  have HA := Lib.hid ha
                  have HB := Lib.hid hb
                  clear ha hb
                  by_cases hlt : i < 16 ∧ i < L
                  · obtain ⟨hlt16, hltL⟩ := hlt
                    have hlt1 : (i : Int) < 16 := by omega
                    have hlt2 : (i : Int) < (L : Int) := by omega
                    obtain ⟨d, hd⟩ : ∃ d, d = dig al i := ⟨_, rfl⟩
                    have hd256 : d < 256 := by rw [hd]; exact dig_lt HD6.out i
                    obtain ⟨b6, o6, rfl, -, hc⟩ := (HA6.out.below HB.out).at_ (k := i) (by rw [← HL6.out]; exact hltL)
                    have hc' : wr.cell? ⟨b6, o6 + i, none⟩ = some (.int .i64 (d : Int)) := by rw [hc, hd]; simp [dN, dig, List.getD, show i < al.length by rw [← HL6.out]; exact hltL]
                    obtain ⟨y, hy⟩ : ∃ y, (outTo al i)[i]? = some y := ⟨_, List.getElem?_eq_getElem (by rw [outTo_len]; exact hlt16)⟩
                    have hco : wr.cell? ⟨w6.heap.size, i, none⟩ = some (.int .u8 (bv y)) := HA.out.at_ hy
                    have hfo := HA.out.frozen i
                    have HS := Lib.hid (show Arr b8 (wr.setCell ⟨w6.heap.size, i, none⟩ (.int .u8 (d : Int))) w6.heap.size 76 (outTo al (i + 1)) by
                      have h := HA.out.set_ i (BitVec.ofNat 8 (dig al i))
                      rw [outTo_set] at h
                      have e : b8 (BitVec.ofNat 8 (dig al i)) = .int .u8 (d : Int) := by
                        have hm : d % 2 ^ 8 = d := Nat.mod_eq_of_lt hd256
                        show Value.int .u8 (((BitVec.ofNat 8 (dig al i)).toNat : Nat) : Int) = _
                        rw [← hd, BitVec.toNat_ofNat, hm]
                      rw [e] at h; exact h)
                    clear hc hd hy
                    go_wp2_with fail
                    exact ⟨⟨i + 1, by omega, by omega, by simp, HS.out, HB.out.setCell (p := ⟨w6.heap.size, i, none⟩) (Nat.le_refl _) _⟩, by simp [intOf]; omega⟩
                  · have HZ := Lib.hid (HOe.out al i HD6.out (by rw [← HL6.out]; omega) HV6.out)
                    have HAm := Lib.hid (HA.out.cast HZ.out)
                    have HR1 := Lib.hid (show Arr b8 wr (w.heap.size + 1) 76 (List.replicate 16 0#8) from ((HO1.out.below HB4.out (by omega)).below (HB6.out.mono (Nat.le_refl _)) (by omega)).below HB.out (by omega))
                    have HBe := Lib.hid (show Below w.heap.size w wr from (HB1.out.trans (HB4.out.mono (by omega))).trans ((HB6.out.mono (by omega)).trans (HB.out.mono (by omega))))
                    by_cases hlt16 : i < 16
                    · have hlt1 : (i : Int) < 16 := by omega
                      have hlt2 : ¬ ((i : Int) < (L : Int)) := by omega
                      go_wp2_with (first
                        | (refine wpList_load_arr rfl 76 (.tmp 14) rfl w6.heap.size rfl _ O HAm.out _ Try.underlying76 rfl (by rw [size16r, HML.out]) ?_)
                        | (refine wpList_store_arr rfl 76 (.tmp 4) (.tmp 112) rfl (w.heap.size + 1) rfl O rfl _ _ HR1.out (by rw [HML.out]; rfl) (by rw [size16r, HML.out]) b8_one' ?_; intro w9 hp9 hg9; have HP9 := Lib.hid hp9; have HG9 := Lib.hid hg9; clear hp9 hg9))
                      refine bodyPost_ret (v := .agg (O.map b8).toArray) (results_arr (g := w.heap.size + 1) rfl _ _ _ _ _ rfl HP9.out Try.underlying76 rfl (by rw [size16r, HML.out])) rfl ?_
                      exact ⟨rfl, HBe.out.grown HG9.out HBe.out.size (fun k e => by cases e; omega)⟩
                    · have hlt1 : ¬ ((i : Int) < 16) := by omega
                      go_wp2_with (first
                        | (refine wpList_load_arr rfl 76 (.tmp 14) rfl w6.heap.size rfl _ O HAm.out _ Try.underlying76 rfl (by rw [size16r, HML.out]) ?_)
                        | (refine wpList_store_arr rfl 76 (.tmp 4) (.tmp 112) rfl (w.heap.size + 1) rfl O rfl _ _ HR1.out (by rw [HML.out]; rfl) (by rw [size16r, HML.out]) b8_one' ?_; intro w9 hp9 hg9; have HP9 := Lib.hid hp9; have HG9 := Lib.hid hg9; clear hp9 hg9))
                      refine bodyPost_ret (v := .agg (O.map b8).toArray) (results_arr (g := w.heap.size + 1) rfl _ _ _ _ _ rfl HP9.out Try.underlying76 rfl (by rw [size16r, HML.out])) rfl ?_
                      exact ⟨rfl, HBe.out.grown HG9.out HBe.out.size (fun k e => by cases e; omega)⟩
end Go.Proofs.Ytkoefhbmkmepaaa
