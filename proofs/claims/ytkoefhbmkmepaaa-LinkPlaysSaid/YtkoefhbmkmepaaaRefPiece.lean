/- CONTRACT: burrowref03.Piece. -/
import Derived.Test.YtkoefhbmkmepaaaWords
import Derived.Test.YtkoefhbmkmepaaaPiece
import Derived.Lib.SlBytesConst
namespace Go.Proofs.Ytkoefhbmkmepaaa
open Go.RowKit
set_option linter.unusedVariables false
set_option linter.unusedSimpArgs false

def sixteen : List (BitVec 8) := [101#8, 120#8, 112#8, 97#8, 110#8, 100#8, 32#8, 51#8, 50#8, 45#8, 98#8, 121#8, 116#8, 101#8, 32#8, 107#8]
def c4 : List (BitVec 32) := [1634760805#32, 857760878#32, 2036477234#32, 1797285236#32]
theorem sixteen_words : wordsL sixteen = c4 := by decide +kernel
theorem s_ref (key nonce : List (BitVec 8)) (nb : BitVec 32) (hk : key.length = 32) (hn : nonce.length = 12) : c4 ++ wordsL key ++ [nb] ++ wordsL nonce = stN key nonce nb 3 := by
  unfold wordsL
  rw [hk, hn]
  simp [wordsTo, stN, sK, s0, c4, List.range_succ]
theorem list16 : ∀ (X : List (BitVec 32)), X.length = 16 → ∃ a b c d e f g h i j k l m n o p, X = [a, b, c, d, e, f, g, h, i, j, k, l, m, n, o, p]
  | [a, b, c, d, e, f, g, h, i, j, k, l, m, n, o, p], _ => ⟨a, b, c, d, e, f, g, h, i, j, k, l, m, n, o, p, rfl⟩
theorem quarterL_setq (k : Nat) (hk : k < 8) (X : List (BitVec 32)) (hX : X.length = 16) : quarterL (qAt k).1 (qAt k).2.1 (qAt k).2.2.1 (qAt k).2.2.2 X = setq (qAt k) X := by
  obtain ⟨a, b, c, d, e, f, g, h, i, j, k', l, m, n, o, p, rfl⟩ := list16 X hX
  match k, hk with
  | 0, _ => simp only [qAt, quarterL, qstep, setq, quarter, List.getD_cons_zero, List.getD_cons_succ, List.set_cons_zero, List.set_cons_succ]
  | 1, _ => simp only [qAt, quarterL, qstep, setq, quarter, List.getD_cons_zero, List.getD_cons_succ, List.set_cons_zero, List.set_cons_succ]
  | 2, _ => simp only [qAt, quarterL, qstep, setq, quarter, List.getD_cons_zero, List.getD_cons_succ, List.set_cons_zero, List.set_cons_succ]
  | 3, _ => simp only [qAt, quarterL, qstep, setq, quarter, List.getD_cons_zero, List.getD_cons_succ, List.set_cons_zero, List.set_cons_succ]
  | 4, _ => simp only [qAt, quarterL, qstep, setq, quarter, List.getD_cons_zero, List.getD_cons_succ, List.set_cons_zero, List.set_cons_succ]
  | 5, _ => simp only [qAt, quarterL, qstep, setq, quarter, List.getD_cons_zero, List.getD_cons_succ, List.set_cons_zero, List.set_cons_succ]
  | 6, _ => simp only [qAt, quarterL, qstep, setq, quarter, List.getD_cons_zero, List.getD_cons_succ, List.set_cons_zero, List.set_cons_succ]
  | 7, _ => simp only [qAt, quarterL, qstep, setq, quarter, List.getD_cons_zero, List.getD_cons_succ, List.set_cons_zero, List.set_cons_succ]
theorem qAt_low (k : Nat) (hk : k < 4) : qAt k = (k, 4 + k, 8 + k, 12 + k) := by
  match k, hk with
  | 0, _ => rfl
  | 1, _ => rfl
  | 2, _ => rfl
  | 3, _ => rfl
theorem qAt_high (k : Nat) (hk : k < 4) : qAt (4 + k) = (k, 4 + (k + 1) % 4, 8 + (k + 2) % 4, 12 + (k + 3) % 4) := by
  match k, hk with
  | 0, _ => rfl
  | 1, _ => rfl
  | 2, _ => rfl
  | 3, _ => rfl

structure RcC (w : World) (gs gx : Nat) (wr : World) (s x : List (BitVec 32)) (o : List (BitVec 8)) : Prop where
  o : Arr b8 wr (w.heap.size + 2) 82 o
  r : Arr b8 wr (w.heap.size + 1) 82 (List.replicate 64 0#8)
  c : ∀ j, j < 16 → wr.cell? ⟨gs, j, none⟩ = some (b32 (s.getD j 0#32)) ∧ wr.cell? ⟨gx, j, none⟩ = some (b32 (x.getD j 0#32))
  b : Below w.heap.size w wr
theorem RcC.set_ {w wr : World} {gs gx : Nat} {s x : List (BitVec 32)} {o : List (BitVec 8)} (h : RcC w gs gx wr s x o) (n1 : gs ≠ w.heap.size + 2) (n2 : gx ≠ w.heap.size + 2) (k : Nat) (u : BitVec 8) : RcC w gs gx (wr.setCell ⟨w.heap.size + 2, k, none⟩ (.int .u8 (bv u))) s x (o.set k u) :=
  ⟨h.o.set_ k u, h.r.far (by simp) _, fun j hj => ⟨(World.cell?_setCell_far wr ⟨w.heap.size + 2, k, none⟩ ⟨gs, j, none⟩ _ (by show w.heap.size + 2 ≠ gs; omega)).trans (h.c j hj).1, (World.cell?_setCell_far wr ⟨w.heap.size + 2, k, none⟩ ⟨gx, j, none⟩ _ (by show w.heap.size + 2 ≠ gx; omega)).trans (h.c j hj).2⟩,
    h.b.setCell (p := ⟨w.heap.size + 2, k, none⟩) (by simp) _⟩
theorem RcC.drew {w wr : World} {gs gx : Nat} {s x : List (BitVec 32)} {o : List (BitVec 8)} (h : RcC w gs gx wr s x o) : RcC w gs gx wr.drew s x o := ⟨h.o, h.r, h.c, h.b.drew⟩
theorem ref_boxes (w : World) (key : List (BitVec 8)) : ∃ W3, ((w.alloc (.cells (key.map b8).toArray 39)).alloc (.cells ((List.replicate 64 0#8).map b8).toArray 82)).alloc (.cells ((List.replicate 64 0#8).map b8).toArray 82) = W3 ∧
    Arr b8 W3 w.heap.size 39 key ∧ Arr b8 W3 (w.heap.size + 1) 82 (List.replicate 64 0#8) ∧ Arr b8 W3 (w.heap.size + 2) 82 (List.replicate 64 0#8) ∧ Below w.heap.size w W3 ∧ W3.heap.size = w.heap.size + 1 + 1 + 1 := by
  refine ⟨_, rfl, ((Arr.new b8 w _ key).alloc _).alloc _, (Arr.at_size b8 _ _ (by simp)).alloc _, Arr.at_size b8 _ _ (by simp), ?_, by simp⟩
  exact (((Below.refl _ _).alloc (Nat.le_refl _) _).alloc (by simp) _).alloc (by simp; omega) _
set_option maxRecDepth 100000 in
set_option maxHeartbeats 4000000 in
theorem refPiece_ok (key : List (BitVec 8)) (b off c : Nat) (nonce : List (BitVec 8)) (number : Int) (w : World) (hk : key.length = 32) (hcell : ∀ j u, nonce[j]? = some u → w.cell? ⟨b, off + j, none⟩ = some (b8 u)) (hbB : b < w.heap.size) (hn : nonce.length = 12) (hnc : 12 ≤ c) (h0 : 0 ≤ number) (hmx : number ≤ 4294967295) (nb : BitVec 32) (hnb : nb = BitVec.ofInt 32 number) :
    Calls Try.prog 50 #[arrV b8 key, .slice (some ⟨b, off, none⟩) 12 c, .int .i64 number] w fun e w' => e = .returned (.tuple #[arrV b8 (pieceL key nonce nb), .int .i64 0]) ∧ Below w.heap.size w w' := by
  obtain ⟨i0, hi0, hz0, hz1, hz2⟩ := info_parts infoU32
  rw [arrV_mk]
  have HK := Lib.hid hk
  have HN := Lib.hid hn
  have HCell := Lib.hid hcell
  have hcv := ofint_u32 number
  rw [← hnb] at hcv
  have d1 : decide (number < 0) = false := by simp; omega
  have d2 : decide (4294967295 < number) = false := by simp; omega
  clear hk hn hcell hnb
  have kc := fun (C : Array Value) => Lib.run_convert_bytes_const (P := Try.prog) (((w.alloc (.cells (key.map b8).toArray 39)).alloc (.cells #[.int .u8 0, .int .u8 0, .int .u8 0, .int .u8 0, .int .u8 0, .int .u8 0, .int .u8 0, .int .u8 0, .int .u8 0, .int .u8 0, .int .u8 0, .int .u8 0, .int .u8 0, .int .u8 0, .int .u8 0, .int .u8 0, .int .u8 0, .int .u8 0, .int .u8 0, .int .u8 0, .int .u8 0, .int .u8 0, .int .u8 0, .int .u8 0, .int .u8 0, .int .u8 0, .int .u8 0, .int .u8 0, .int .u8 0, .int .u8 0, .int .u8 0, .int .u8 0, .int .u8 0, .int .u8 0, .int .u8 0, .int .u8 0, .int .u8 0, .int .u8 0, .int .u8 0, .int .u8 0, .int .u8 0, .int .u8 0, .int .u8 0, .int .u8 0, .int .u8 0, .int .u8 0, .int .u8 0, .int .u8 0, .int .u8 0, .int .u8 0, .int .u8 0, .int .u8 0, .int .u8 0, .int .u8 0, .int .u8 0, .int .u8 0, .int .u8 0, .int .u8 0, .int .u8 0, .int .u8 0, .int .u8 0, .int .u8 0, .int .u8 0, .int .u8 0] 82)).alloc (.cells #[.int .u8 0, .int .u8 0, .int .u8 0, .int .u8 0, .int .u8 0, .int .u8 0, .int .u8 0, .int .u8 0, .int .u8 0, .int .u8 0, .int .u8 0, .int .u8 0, .int .u8 0, .int .u8 0, .int .u8 0, .int .u8 0, .int .u8 0, .int .u8 0, .int .u8 0, .int .u8 0, .int .u8 0, .int .u8 0, .int .u8 0, .int .u8 0, .int .u8 0, .int .u8 0, .int .u8 0, .int .u8 0, .int .u8 0, .int .u8 0, .int .u8 0, .int .u8 0, .int .u8 0, .int .u8 0, .int .u8 0, .int .u8 0, .int .u8 0, .int .u8 0, .int .u8 0, .int .u8 0, .int .u8 0, .int .u8 0, .int .u8 0, .int .u8 0, .int .u8 0, .int .u8 0, .int .u8 0, .int .u8 0, .int .u8 0, .int .u8 0, .int .u8 0, .int .u8 0, .int .u8 0, .int .u8 0, .int .u8 0, .int .u8 0, .int .u8 0, .int .u8 0, .int .u8 0, .int .u8 0, .int .u8 0, .int .u8 0, .int .u8 0, .int .u8 0] 82)) 47 5 C 16 16 Try.underlying47 Try.underlying5
  simp only [World.size_alloc] at kc
  go_enter Try.func50, Try.ntmps50
  go_wp2_with fail
  obtain ⟨W3, hW3, hk3, ho3, hq3, hb3, hz3⟩ := ref_boxes w key
  have Hk3 := Lib.hid hk3
  have Ho3 := Lib.hid ho3
  have Hq3 := Lib.hid hq3
  have Hb3 := Lib.hid hb3
  rw [show w.heap.size + 1 + 1 + 1 = W3.heap.size from hz3.symm]
  have Hz3 := Lib.hid hz3
  change World.alloc (World.alloc (World.alloc w _) (.cells ((List.replicate 64 0#8).map b8).toArray 82)) (.cells ((List.replicate 64 0#8).map b8).toArray 82) = W3 at hW3
  generalize hW : World.alloc (World.alloc (World.alloc w _) _) _ = V3
  obtain rfl : W3 = V3 := hW3.symm.trans hW
  clear hW hW3 hk3 ho3 hq3 hb3 hz3
  have hr16 : Rd b8 (W3.alloc (.cells (sixteen.map b8).toArray 5 (16, 17))) (W3.heap.size + 1) (some ⟨W3.heap.size, 0, none⟩) sixteen := fun _ =>
    ⟨W3.heap.size, 0, rfl, by omega, fun j u hu => by rw [Nat.zero_add, cell_of_row _ W3.heap.size j _ 5 (16, 17) (heap_alloc_new W3 _)]; simp [hu]⟩
  have Hr16 := Lib.hid hr16
  clear hr16
  clear kc
  refine (words_any 16 Hr16.out (by simp) rfl (by decide)).mono ?_
  rintro e w4 ⟨v4, rfl, ho4, hb4⟩
  rw [sixteen_words] at ho4
  have Hz := Lib.hid (show w.heap.size + 3 = W3.heap.size by rw [Hz3.out])
  have hB4 : Below W3.heap.size W3 w4 := ((Below.refl _ _).alloc (Nat.le_refl _) _).trans (hb4.mono (by simp))
  have hw4 : W3.heap.size + 1 ≤ w4.heap.size := by have := hb4.size; simpa using this
  obtain ⟨A4, c4', rfl, hr4, -, -, -⟩ := ho4.shape' (n := 4) rfl
  have O4 := Lib.hid (ho4.less (B' := W3.heap.size) (by simp))
  have HB4 := Lib.hid hB4
  clear ho4 hb4 hB4 hr4 Hr16
  go_wp2_with fail
  have hk4 : Rd b8 w4 (w.heap.size + 1) (some ⟨w.heap.size, 0, none⟩) key := by
    have := (Hk3.out.below HB4.out (by rw [← Hz.out]; omega)).rd 0
    rwa [List.drop_zero] at this
  have Hk4 := Lib.hid hk4
  have hzw : w.heap.size + 1 ≤ w4.heap.size := by have := Hz.out; omega
  clear hk4
  refine (words_any 32 Hk4.out hzw HK.out (by omega)).mono ?_
  rintro e w5 ⟨v5, rfl, ho5, hb5⟩
  have hl5 : (wordsL key).length = 8 := by unfold wordsL; rw [HK.out]; rfl
  obtain ⟨A5, c5, rfl, hr5, -, -, -⟩ := ho5.shape' hl5
  have O5 := Lib.hid (O4.out.below hb5 (Nat.le_refl _))
  have R5 := Lib.hid hr5
  have HL5 := Lib.hid hl5
  have HB5 := Lib.hid (HB4.out.trans (hb5.mono (by omega)))
  have hw5 : W3.heap.size + 1 ≤ w5.heap.size := Nat.le_trans hw4 hb5.size
  clear ho5 hr5 hl5 hb5 hzw Hk4
  have tok1 : True := trivial
  have tok2 : True := trivial
  go_wp2_with (first
    | (at_builtin; have _t := tok1; clear tok1; refine wpList_append_rd rfl _ _ 108 rfl b32_one' W3.heap.size 90 i0 _ 4 Try.underlying108 hi0 hz0 hz1 hz2 rfl _ c4 rfl O5.out w5.heap.size A5 8 c5 (wordsL key) rfl HL5.out.symm R5.out (by rw [HL5.out]; simp [c4, maxLen]) (by rw [HL5.out]; simp [c4]) (by omega) ?_; intro v6 w6 ho6 hg6 hbb6; have O6 := Lib.hid ho6; have HB6 := Lib.hid (hbb6 _ _ (Nat.le_refl _) HB5.out); have hw6 : W3.heap.size + 1 ≤ w6.heap.size := Nat.le_trans hw5 hg6.size; clear ho6 hg6 hbb6)
    | (at_builtin; have _t := tok2; clear tok2; refine wpList_append_rd rfl _ _ 108 rfl b32_one' W3.heap.size 90 i0 _ 4 Try.underlying108 hi0 hz0 hz1 hz2 rfl _ (c4 ++ wordsL key) rfl (O6.out.alloc _) (w6.heap.size + 1) _ 1 1 [nb] rfl rfl (Rd.new b32 _ _ [nb]) (by rw [List.length_append, HL5.out]; simp [c4, maxLen]) (by rw [List.length_append, HL5.out]; simp [c4]) (by simp; omega) ?_; intro v7 w7 ho7 hg7 hbb7; have O7 := Lib.hid ho7; have HB7 := Lib.hid (hbb7 _ _ (Nat.le_refl _) (HB6.out.alloc (by omega) _)); have hw7 : W3.heap.size + 1 ≤ w7.heap.size := by have := hg7.size; simp at this; omega); clear hg7 hbb7 ho7)
  have hn7 : Rd b8 w7 (b + 1) (some ⟨b, off, none⟩) nonce := fun _ => ⟨b, off, rfl, by omega, fun j u hu => by
    have h1 : Below w.heap.size W3 w7 := HB7.out.mono (by have := Hz.out; omega)
    exact ((Hb3.out.trans h1).cell (p := ⟨b, off + j, none⟩) hbB).trans (HCell.out j u hu)⟩
  have Hn7 := Lib.hid hn7
  have hb7z : b + 1 ≤ w7.heap.size := by have := Hz.out; omega
  clear hn7
  refine (words_any c Hn7.out hb7z HN.out (by omega)).mono ?_
  rintro e w8 ⟨v8, rfl, ho8, hb8⟩
  have hl8 : (wordsL nonce).length = 3 := by unfold wordsL; rw [HN.out]; rfl
  obtain ⟨A8, c8, rfl, hr8, -, -, -⟩ := ho8.shape' hl8
  have O8 := Lib.hid (O7.out.below hb8 (Nat.le_refl _))
  have R8 := Lib.hid hr8
  have HL8 := Lib.hid hl8
  have HB8 := Lib.hid (HB7.out.trans (hb8.mono (by omega)))
  have hw8 : W3.heap.size + 1 ≤ w8.heap.size := Nat.le_trans hw7 hb8.size
  have HL7 := Lib.hid (show (c4 ++ wordsL key ++ [nb]).length = 13 by rw [List.length_append, List.length_append, HL5.out]; rfl)
  obtain ⟨S, hS⟩ : ∃ S, S = stN key nonce nb 3 := ⟨_, rfl⟩
  have HS := Lib.hid hS
  have HSr := Lib.hid (show c4 ++ wordsL key ++ [nb] ++ wordsL nonce = S by rw [hS]; exact s_ref key nonce nb HK.out HN.out)
  have HSl := Lib.hid (show S.length = 16 by rw [hS]; exact sN_len _ _ _ _)
  clear ho8 hr8 hl8 hb8 Hn7 hb7z hS
  have tok3 : True := trivial
  have tok4 : True := trivial
  go_wp2_with (first
    | (at_builtin; have _t := tok3; clear tok3; refine wpList_append_rd rfl _ _ 108 rfl b32_one' W3.heap.size 90 i0 _ 4 Try.underlying108 hi0 hz0 hz1 hz2 rfl _ (c4 ++ wordsL key ++ [nb]) rfl O8.out w8.heap.size A8 3 c8 (wordsL nonce) rfl HL8.out.symm R8.out (by rw [HL7.out, HL8.out]; simp [maxLen]) (by rw [HL7.out, HL8.out]; omega) (by omega) ?_; intro v9 w9 ho9 hg9 hbb9; rw [HSr.out] at ho9; obtain ⟨gs, cs, rfl, hgs1, hgs2, -⟩ := ho9.form' HSl.out (by omega); have R9 := Lib.hid ho9.rd; have HB9 := Lib.hid (hbb9 _ _ (Nat.le_refl _) HB8.out); have hw9 : W3.heap.size + 1 ≤ w9.heap.size := Nat.le_trans hw8 hg9.size; clear ho9 hg9 hbb9)
    | (at_builtin; have _t := tok4; clear tok4; refine wpList_append_rd rfl _ _ 108 rfl b32_one' w9.heap.size 90 i0 _ 4 Try.underlying108 hi0 hz0 hz1 hz2 rfl _ [] rfl (Own.lit b32 w9 w9.heap.size 90 [] (Nat.le_refl _) (by simp [maxLen])) w9.heap.size (some ⟨gs, 0, none⟩) 16 cs S rfl HSl.out.symm (R9.out.alloc (Nat.le_refl _) _) (by rw [HSl.out]; simp [maxLen]) (by rw [HSl.out]; simp) (by simp) ?_; intro v10 w10 ho10 hg10 hbb10; rw [List.nil_append] at ho10; obtain ⟨gx, cx, rfl, hgx1, hgx2, -⟩ := ho10.form' HSl.out (by omega); have O10 := Lib.hid ho10; have HB10 := Lib.hid (hbb10 _ _ (Nat.le_refl _) ((Below.refl w9.heap.size w9).alloc (Nat.le_refl _) _)); clear hg10 hbb10 ho10))
  go_loopw [11] (fun i wr => ∃ r : Nat, r ≤ 10 ∧ i = .int .i64 r ∧ Own b32 wr w9.heap.size 90 (.slice (some ⟨gx, 0, none⟩) 16 cx) (dblTo r S) ∧ Below w9.heap.size w9 wr) (fun i _ => 10 - (intOf i).toNat)
  case atStart => exact ⟨0, by omega, rfl, O10.out, HB10.out⟩
  case round =>
    obtain ⟨r, hr10, rfl, hO, hB⟩ := hrel
    have HO := Lib.hid hO
    have HB := Lib.hid hB
    have hrz := hB.size
    clear hO hB O10 HB10
    by_cases hlt : r < 10
    · have hlt' : decide ((r : Int) < 10) = true := by simp; omega
      go_wp2_with fail
      go_loopw [12] (fun i wr => ∃ k : Nat, k ≤ 4 ∧ i = .int .i64 k ∧ Own b32 wr w9.heap.size 90 (.slice (some ⟨gx, 0, none⟩) 16 cx) (roundTo k (dblTo r S)) ∧ Below w9.heap.size w9 wr) (fun i _ => 4 - (intOf i).toNat)
      case atStart => exact ⟨0, by omega, rfl, HO.out, HB.out⟩
      case round =>
        clear HO HB hrz
        obtain ⟨k, hk4, rfl, hO, hB⟩ := hrel
        have HO := Lib.hid hO
        have HB := Lib.hid hB
        have hrz := hB.size
        clear hO hB
        have HXl := Lib.hid (show (roundTo k (dblTo r S)).length = 16 by rw [roundTo_len, dblTo_len]; exact HSl.out)
        by_cases hlt2 : k < 4
        · go_wp2_with fail
          rw [show (4 + (k : Int)) = ((4 + k : Nat) : Int) by omega, show (8 + (k : Int)) = ((8 + k : Nat) : Int) by omega, show (12 + (k : Int)) = ((12 + k : Nat) : Int) by omega]
          refine (refquarter_any gx 16 cx w9.heap.size k (4 + k) (8 + k) (12 + k) (roundTo k (dblTo r S)) _ HO.out (by rw [HXl.out]; omega) (by rw [HXl.out]; omega) (by rw [HXl.out]; omega) (by rw [HXl.out]; omega)).mono ?_
          rintro e w11 ⟨rfl, ho11, hg11⟩
          have hq := quarterL_setq k (by omega) (roundTo k (dblTo r S)) HXl.out
          rw [qAt_low k hlt2] at hq
          have Hq := Lib.hid hq
          have O11 := Lib.hid ho11
          have G11 := Lib.hid hg11
          clear hq ho11 hg11
          go_wp2_with fail
          go_roundw
          case rel =>
            refine ⟨k + 1, by omega, by go_num, O11.out.cast ?_, HB.out.grown G11.out hrz (fun q e => by cases e; exact hgx1)⟩
            rw [roundTo_succ, qAt_low k hlt2]; exact Hq.out
          case measure => simp [intOf]; omega
        · obtain rfl : k = 4 := by omega
          rw [show (((4 : Nat)) : Int) = 4 from rfl]
          go_wp2_with fail
          go_loopw [13] (fun i wr => ∃ k : Nat, k ≤ 4 ∧ i = .int .i64 k ∧ Own b32 wr w9.heap.size 90 (.slice (some ⟨gx, 0, none⟩) 16 cx) (roundTo (4 + k) (dblTo r S)) ∧ Below w9.heap.size w9 wr) (fun i _ => 4 - (intOf i).toNat)
          case atStart => exact ⟨0, by omega, rfl, HO.out, HB.out⟩
          case round =>
            clear HO HB hrz HXl
            obtain ⟨k, hk4, rfl, hO, hB⟩ := hrel
            have HO := Lib.hid hO
            have HB := Lib.hid hB
            have hrz := hB.size
            clear hO hB
            have HXl := Lib.hid (show (roundTo (4 + k) (dblTo r S)).length = 16 by rw [roundTo_len, dblTo_len]; exact HSl.out)
            by_cases hlt3 : k < 4
            · go_wp2_with fail
              rw [show (4 + ((k : Int) + 1) % 4) = ((4 + (k + 1) % 4 : Nat) : Int) by omega, show (8 + ((k : Int) + 2) % 4) = ((8 + (k + 2) % 4 : Nat) : Int) by omega, show (12 + ((k : Int) + 3) % 4) = ((12 + (k + 3) % 4 : Nat) : Int) by omega]
              refine (refquarter_any gx 16 cx w9.heap.size k (4 + (k + 1) % 4) (8 + (k + 2) % 4) (12 + (k + 3) % 4) (roundTo (4 + k) (dblTo r S)) _ HO.out (by rw [HXl.out]; omega) (by rw [HXl.out]; omega) (by rw [HXl.out]; omega) (by rw [HXl.out]; omega)).mono ?_
              rintro e w11 ⟨rfl, ho11, hg11⟩
              have hq := quarterL_setq (4 + k) (by omega) (roundTo (4 + k) (dblTo r S)) HXl.out
              rw [qAt_high k hlt3] at hq
              have Hq := Lib.hid hq
              have O11 := Lib.hid ho11
              have G11 := Lib.hid hg11
              clear hq ho11 hg11
              go_wp2_with fail
              go_roundw
              case rel =>
                refine ⟨k + 1, by omega, by go_num, O11.out.cast ?_, HB.out.grown G11.out hrz (fun q e => by cases e; exact hgx1)⟩
                rw [← Nat.add_assoc, roundTo_succ, qAt_high k hlt3]; exact Hq.out
              case measure => simp [intOf]; omega
            · obtain rfl : k = 4 := by omega
              rw [show (((4 : Nat)) : Int) = 4 from rfl]
              go_wp2_with fail
              go_roundw
              case rel => exact ⟨r + 1, by omega, by go_num, HO.out, HB.out⟩
              case measure => simp [intOf]; omega
    · obtain rfl : r = 10 := by omega
      rw [show (((10 : Nat)) : Int) = 10 from rfl]
      obtain ⟨X, hX⟩ : ∃ X, X = dblTo 10 S := ⟨_, rfl⟩
      have HX := Lib.hid hX
      have HXl := Lib.hid (show X.length = 16 by rw [hX, dblTo_len]; exact HSl.out)
      have hO := HO.out
      rw [← hX] at hO
      have hwz := Hz.out
      have hsx : ∀ j, j < 16 → wr.cell? ⟨gs, j, none⟩ = some (b32 (S.getD j 0#32)) ∧ wr.cell? ⟨gx, j, none⟩ = some (b32 (X.getD j 0#32)) := fun j hj => by
        refine ⟨?_, hO.cellD (by rw [HXl.out]; exact hj)⟩
        obtain ⟨g', off, e, hb', hc⟩ := R9.out (by rw [HSl.out]; omega)
        cases e
        have := hc j (S.getD j 0#32) (by simp [List.getD, List.getElem?_eq_getElem (show j < S.length by rw [HSl.out]; exact hj)])
        rw [Nat.zero_add] at this
        exact (HB.out.cell (p := ⟨gs, j, none⟩) hgs2).trans this
      have hB3 : Below W3.heap.size W3 wr := HB9.out.trans (HB.out.mono (by omega))
      have hq0 : Arr b8 wr (w.heap.size + 2) 82 (outP X S 0) := (Hq3.out.below hB3 (by omega)).cast (outP_0 X S).symm
      have ho0 : Arr b8 wr (w.heap.size + 1) 82 (List.replicate 64 0#8) := Ho3.out.below hB3 (by omega)
      have HC := Lib.hid (show RcC w gs gx wr S X (outP X S 0) from ⟨hq0, ho0, hsx, Hb3.out.trans (hB3.mono (by omega))⟩)
      clear hX hO hsx hB3 hq0 ho0 HO HB hrz hr10 hwz
      have n1 : gs ≠ w.heap.size + 2 := by have := Hz.out; omega
      have n2 : gx ≠ w.heap.size + 2 := by have := Hz.out; omega
      have N1 := Lib.hid n1
      have N2 := Lib.hid n2
      clear n1 n2
      go_wp2_with fail
      go_loopw [14] (fun i wr => ∃ m : Nat, m ≤ 64 ∧ i = .int .i64 m ∧ RcC w gs gx wr S X (outP X S m)) (fun i _ => 64 - (intOf i).toNat)
      case atStart => exact ⟨0, by omega, rfl, HC.out⟩
      case round =>
        clear HC
        obtain ⟨m, hm64, rfl, hC⟩ := hrel
        have HC := Lib.hid hC
        clear hC
        by_cases hlt4 : m < 64
        · obtain ⟨q, hq⟩ : ∃ q, q = m / 4 := ⟨_, rfl⟩
          obtain ⟨t, ht⟩ : ∃ t, t = m % 4 := ⟨_, rfl⟩
          have cs0 := (HC.out.c q (by omega)).1
          have cx0 := (HC.out.c q (by omega)).2
          have co := HC.out.o.cellD (k := m) (by rw [outP_len]; omega) 0#8
          have fo := HC.out.o.frozen m
          have ho : outB X S m = ((X.getD q 0#32 + S.getD q 0#32) >>> (8 * t)).setWidth 8 := by rw [hq, ht]; rfl
          generalize X.getD q 0#32 = xm at cx0 ho
          generalize S.getD q 0#32 = sm at cs0 ho
          simp only [b32] at cx0 cs0
          have Ho := Lib.hid ho
          have e1 : (m : Int).tdiv 4 = (q : Int) := by rw [Int.tdiv_eq_ediv_of_nonneg (by omega)]; omega
          have e2 : (m : Int).tmod 4 = (t : Int) := by rw [Int.tmod_eq_emod_of_nonneg (by omega)]; omega
          have q1 : (q : Int) < 16 := by omega
          have m64 : (m : Int) < 64 := by omega
          have t4 : (t : Int) < 4 := by omega
          have e3 : IntKind.i64.wrap (8 * (t : Int)) = 8 * (t : Int) := IntWalk.i64_in _ (by omega)
          have e5 : IntKind.i64.wrap (q : Int) = q := IntWalk.i64_in _ (by omega)
          have e6 : IntKind.i64.wrap (t : Int) = t := IntWalk.i64_in _ (by omega)
          have e4 : IntKind.u64.wrap (8 * (t : Int)) = 8 * (t : Int) := by rw [IntKind.wrap_u64]; omega
          clear ho hq ht
          go_wp2_with fail
          go_still_tail 19, (by kernel_rfl)
          clear e1 e2 e3 e4 e5 e6
          go_wp2_with fail
          go_roundw
          case rel =>
            refine ⟨m + 1, by omega, by go_num, ?_⟩
            rw [← outP_set, Ho.out]
            exact HC.out.drew.set_ N1.out N2.out m _
          case measure => simp [intOf]; omega
        · obtain rfl : m = 64 := by omega
          rw [show (((64 : Nat)) : Int) = 64 from rfl]
          obtain ⟨O, hO⟩ : ∃ O, O = outP X S 64 := ⟨_, rfl⟩
          have HO := Lib.hid hO
          have Hi := Lib.hid (show (Try.prog.info? 82).map (·.size) = some O.length by rw [hO, outP_len]; kernel_rfl)
          have hC := HC.out
          rw [← hO] at hC
          have HC2 := Lib.hid hC
          have hOl : O.length = 64 := by rw [hO, outP_len]
          have HOl := Lib.hid hOl
          clear hO hC HC hm64 hOl
          go_wp2_with (first
            | refine wpList_load_arr rfl 82 _ rfl (w.heap.size + 1 + 1) rfl _ O HC2.out.o _ Try.underlying82 rfl Hi.out ?_
            | (refine wpList_store_arr rfl 82 _ _ rfl (w.heap.size + 1) rfl O rfl _ _ HC2.out.r (by rw [HOl.out]; rfl) Hi.out b8_one' ?_; intro w9' ho9 hg9))
          have Ho9 := Lib.hid ho9
          clear ho9
          refine bodyPost_ret (v := .tuple #[.agg (O.map b8).toArray, .int .i64 0]) (results_arr_tmp (g := w.heap.size + 1) rfl _ _ _ _ _ _ rfl rfl Ho9.out Try.underlying82 rfl Hi.out) rfl ?_
          refine ⟨by rw [arrV_mk, pieceL_mk, ← HS.out, ← HX.out, HO.out], HC2.out.b.grown hg9 (by have := HC2.out.r.lt; omega) (fun k e => by cases e; omega)⟩
end Go.Proofs.Ytkoefhbmkmepaaa
