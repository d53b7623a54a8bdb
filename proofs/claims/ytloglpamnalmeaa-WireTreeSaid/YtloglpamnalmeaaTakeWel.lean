/- CONTRACT: wire.TakeWelcome. PLAIN LAW: a welcome that is put is read back. -/
import Derived.Test.YtloglpamnalmeaaChkWelcome
import Derived.Test.YtloglpamnalmeaaWelcome
import Derived.Test.YtloglpamnalmeaaWireFn
namespace Go.Proofs.Ytloglpamnalmeaa
open Go.RowKit
set_option linter.unusedVariables false
set_option linter.unusedSimpArgs false

structure ParsedW where
  nm : Nat
  s1 : List (BitVec 8)
  s2 : List (BitVec 8)
  rest : List (BitVec 8)
  bad : Bool
def rowO (ys : List (BitVec 8)) : List (BitVec 8) := tkO (beVal (tkO 2 ys)) (tkR 2 ys)
def rowR (ys : List (BitVec 8)) : List (BitVec 8) := tkR (beVal (tkO 2 ys)) (tkR 2 ys)
def rowD (ys : List (BitVec 8)) (b : Bool) : Bool := tkB (beVal (tkO 2 ys)) (tkR 2 ys) (tkB 2 ys b)
theorem rowO_len (ys : List (BitVec 8)) : (rowO ys).length < 65536 := by unfold rowO; rw [tkO_len]; exact beVal_lt 2 _ (tkO_len _ _)
theorem rowR_le (ys : List (BitVec 8)) : (rowR ys).length ≤ ys.length := Nat.le_trans (tkR_le _ _) (tkR_le _ _)
def parseW (bs : List (BitVec 8)) : ParsedW := ⟨beVal (tkO 1 bs), rowO (tkR 1 bs), rowO (rowR (tkR 1 bs)), rowR (rowR (tkR 1 bs)), rowD (rowR (tkR 1 bs)) (rowD (tkR 1 bs) (tkB 1 bs false))⟩
def goodW (bs : List (BitVec 8)) : Bool := chkGood (parseW bs).bad (parseW bs).rest bs (welBad (parseW bs).nm (parseW bs).s1.length (parseW bs).s2.length) (welBytes (parseW bs).nm (parseW bs).s1 (parseW bs).s2)
theorem rowO_app {xs ys : List (BitVec 8)} (h : xs.length < 65536) : rowO (rowB xs ++ ys) = xs := by
  unfold rowO rowB
  rw [List.append_assoc]
  simp only [tkO_app (be_len _ 2), tkR_app (be_len _ 2), tkB_app (be_len _ 2), beVal_be_lt (show xs.length < 256 ^ 2 from h), tkO_app (rfl : xs.length = xs.length), tkR_app (rfl : xs.length = xs.length), tkB_app (rfl : xs.length = xs.length)]
theorem rowR_app {xs ys : List (BitVec 8)} (h : xs.length < 65536) : rowR (rowB xs ++ ys) = ys := by
  unfold rowR rowB
  rw [List.append_assoc]
  simp only [tkO_app (be_len _ 2), tkR_app (be_len _ 2), tkB_app (be_len _ 2), beVal_be_lt (show xs.length < 256 ^ 2 from h), tkO_app (rfl : xs.length = xs.length), tkR_app (rfl : xs.length = xs.length), tkB_app (rfl : xs.length = xs.length)]
theorem rowD_app {xs ys : List (BitVec 8)} (h : xs.length < 65536) (b : Bool) : rowD (rowB xs ++ ys) b = b := by
  unfold rowD rowB
  rw [List.append_assoc]
  simp only [tkO_app (be_len _ 2), tkR_app (be_len _ 2), tkB_app (be_len _ 2), beVal_be_lt (show xs.length < 256 ^ 2 from h), tkO_app (rfl : xs.length = xs.length), tkR_app (rfl : xs.length = xs.length), tkB_app (rfl : xs.length = xs.length)]
theorem parseW_put (nm : Nat) (s1 s2 : List (BitVec 8)) (hm : nm < 256) (h1 : s1.length < 65536) (h2 : s2.length < 65536) : parseW (welBytes nm s1 s2) = ⟨nm, s1, s2, [], false⟩ := by
  have e : welBytes nm s1 s2 = be (nm : Int) 1 ++ (rowB s1 ++ (rowB s2 ++ [])) := by unfold welBytes; simp only [List.append_nil]
  rw [e]
  unfold parseW
  simp only [tkO_app (be_len _ 1), tkR_app (be_len _ 1), tkB_app (be_len _ 1), beVal_be_lt (show nm < 256 ^ 1 from hm), rowO_app h1, rowR_app h1, rowD_app h1, rowO_app h2, rowR_app h2, rowD_app h2]
theorem goodW_put (nm : Nat) (s1 s2 : List (BitVec 8)) (hm : nm < 256) (h1 : s1.length < 65536) (h2 : s2.length < 65536) (hb : welBad nm s1.length s2.length = false) : goodW (welBytes nm s1 s2) = true := by
  unfold goodW
  rw [parseW_put nm s1 s2 hm h1 h2]
  unfold chkGood
  simp [hb]
theorem welC_one (nm : Int) (A1 : Option Addr) (n1 c1 : Nat) (A2 : Option Addr) (n2 c2 : Nat) : ∀ u ∈ welC nm A1 n1 c1 A2 n2 c2, u.oneCell' = true := by
  intro u hu
  simp only [welC, List.mem_cons, List.not_mem_nil, or_false] at hu
  rcases hu with rfl | rfl | rfl <;> rfl

set_option maxRecDepth 100000 in
set_option maxHeartbeats 4000000 in
theorem takeWelcome_any {w : World} {B' : Nat} {A : Option Addr} {n c : Nat} {bs : List (BitVec 8)} (hr : Rd b8 w B' A bs) (hB' : B' ≤ w.heap.size) (hn : bs.length = n) (hnc : n ≤ c) (hy : n ≤ 1000000) :
    Calls Try.prog 21 #[.slice A n c] w fun e w' => Below w.heap.size w w' ∧
      ((goodW bs = true ∧ ∃ A1 c1 A2 c2, e = .returned (.tuple #[.agg (welC (parseW bs).nm A1 (parseW bs).s1.length c1 A2 (parseW bs).s2.length c2).toArray, .nilIface]) ∧ Own b8 w' w.heap.size 5 (.slice A1 (parseW bs).s1.length c1) (parseW bs).s1 ∧ Own b8 w' w.heap.size 5 (.slice A2 (parseW bs).s2.length c2) (parseW bs).s2) ∨
       (goodW bs = false ∧ e = .returned (.tuple #[.agg zerosWelcome.toArray, .iface 108 (.int .i64 3)]))) := by
  have HR := Lib.hid hr
  have HN := Lib.hid hn
  obtain ⟨N, hNN⟩ : ∃ N, N = beVal (tkO 1 bs) := ⟨_, rfl⟩
  obtain ⟨r1, hr1⟩ : ∃ r, r = tkR 1 bs := ⟨_, rfl⟩
  obtain ⟨d1, hd1⟩ : ∃ d, d = tkB 1 bs false := ⟨_, rfl⟩
  obtain ⟨S, hS⟩ : ∃ S, S = rowO r1 := ⟨_, rfl⟩
  obtain ⟨r2, hr2⟩ : ∃ r, r = rowR r1 := ⟨_, rfl⟩
  obtain ⟨d2, hd2⟩ : ∃ d, d = rowD r1 d1 := ⟨_, rfl⟩
  obtain ⟨T, hT⟩ : ∃ T, T = rowO r2 := ⟨_, rfl⟩
  obtain ⟨R, hRR⟩ : ∃ R, R = rowR r2 := ⟨_, rfl⟩
  obtain ⟨D, hD⟩ : ∃ D, D = rowD r2 d2 := ⟨_, rfl⟩
  have hpp : parseW bs = ⟨N, S, T, R, D⟩ := by subst hD hRR hT hd2 hr2 hS hd1 hr1 hNN; rfl
  have hgg : goodW bs = chkGood D R bs (welBad N S.length T.length) (welBytes N S T) := by unfold goodW; rw [hpp]
  rw [hpp, hgg]
  obtain ⟨q, hq⟩ : ∃ q, q = chkGood D R bs (welBad N S.length T.length) (welBytes N S T) := ⟨_, rfl⟩
  rw [← hq]
  have HQ := Lib.hid hq
  have hN1 : N < 256 := by rw [hNN]; exact beVal_lt 1 _ (tkO_len _ _)
  have hSl : S.length < 65536 := by rw [hS]; exact rowO_len _
  have hTl : T.length < 65536 := by rw [hT]; exact rowO_len _
  have hl1 : r1.length ≤ bs.length := by rw [hr1]; exact tkR_le _ _
  have hl2 : r2.length ≤ r1.length := by rw [hr2]; exact rowR_le _
  have hb0 : bs.length ≤ 1000000 := by rw [hn]; exact hy
  have HC1 := Lib.hid (fun (W : World) (h : Eye W w.heap.size (w.heap.size + 1) bs false) => (show Calls Try.prog 60 #[.pointer (some ⟨w.heap.size + 1, 0, none⟩), .int .i64 1] W fun e w' => e = .returned (.int .i64 (N : Int)) ∧ Eye w' w.heap.size (w.heap.size + 1) r1 d1 ∧ W.grownBy w' (some (w.heap.size + 1)) by have := numE_any h 1 1 rfl (by omega) (by omega); rw [← hNN, ← hr1, ← hd1] at this; exact this))
  have HC2 := Lib.hid (fun (W : World) (h : Eye W w.heap.size (w.heap.size + 1) r1 d1) => (show Calls Try.prog 61 #[.pointer (some ⟨w.heap.size + 1, 0, none⟩)] W fun e w' => ∃ v, e = .returned v ∧ Own b8 w' W.heap.size 5 v S ∧ Eye w' w.heap.size (w.heap.size + 1) r2 d2 ∧ W.grownBy w' (some (w.heap.size + 1)) by rw [hS, hr2, hd2]; exact rowE_any h (by omega)))
  have HC3 := Lib.hid (fun (W : World) (h : Eye W w.heap.size (w.heap.size + 1) r2 d2) => (show Calls Try.prog 61 #[.pointer (some ⟨w.heap.size + 1, 0, none⟩)] W fun e w' => ∃ v, e = .returned v ∧ Own b8 w' W.heap.size 5 v T ∧ Eye w' w.heap.size (w.heap.size + 1) R D ∧ W.grownBy w' (some (w.heap.size + 1)) by rw [hT, hRR, hD]; exact rowE_any h (by omega)))
  clear hS hr1 hd1 hr2 hd2 hNN hT hRR hD hpp hgg hq hl1 hl2 hb0
  have HF := Lib.hid (show ∀ W1, (w.alloc (.cells zerosWelcome.toArray 41)).alloc (.cells #[.slice A n c, .bool false] 121) = W1 →
      Blk W1 w.heap.size 41 zerosWelcome ∧ Eye W1 w.heap.size (w.heap.size + 1) bs false ∧ Below w.heap.size w W1 ∧ W1.heap.size = w.heap.size + 2 by
    rintro W1 rfl
    have hb : Below w.heap.size w ((w.alloc (.cells zerosWelcome.toArray 41)).alloc (.cells #[.slice A n c, .bool false] 121)) := ((Below.refl _ _).alloc (Nat.le_refl _) _).alloc (by simp) _
    refine ⟨Blk.alloc (Blk.new w _ _) _, ⟨⟨A, c, ?_, (HR.out.below (hb.mono hB')).more hB', by rw [HN.out]; exact hnc⟩, by omega⟩, hb, by simp⟩
    rw [HN.out]
    exact Blk.at_size _ [.slice A n c, .bool false] (by simp))
  clear hr hn
  go_enter Try.func21, Try.ntmps21
  go_wp2_with fail
  generalize hW1 : World.alloc (World.alloc w _) _ = W1
  obtain ⟨hp1, he1, hb1, hz1⟩ := HF.out W1 hW1
  clear hW1 HF
  have HP1 := Lib.hid hp1
  have HE1 := Lib.hid he1
  have HB1 := Lib.hid hb1
  clear hp1 he1 hb1
  refine (HC1.out _ HE1.out).mono ?_
  rintro e w2 ⟨rfl, he2, hg2⟩
  have hz2 : W1.heap.size ≤ w2.heap.size := hg2.size
  have HE2 := Lib.hid he2
  have HP2 := Lib.hid (Blk.grown HP1.out hg2 (by intro e; have := Option.some.inj e; omega))
  have HB2 := Lib.hid (HB1.out.trans (below_grown hg2 (by omega) (by omega)) : Below w.heap.size w w2)
  clear he2 hg2
  go_wp2_with fail
  refine (HC2.out _ HE2.out).mono ?_
  rintro e w3 ⟨v3, rfl, ho3, he3, hg3⟩
  obtain ⟨A3, c3, rfl, -, -, -, -⟩ := ho3.shape' (n := S.length) rfl
  have hz3 : w2.heap.size ≤ w3.heap.size := hg3.size
  have HE3 := Lib.hid he3
  have HP3 := Lib.hid (Blk.grown HP2.out hg3 (by intro e; have := Option.some.inj e; omega))
  have HB3 := Lib.hid (HB2.out.trans (below_grown hg3 (by omega) (by omega)) : Below w.heap.size w w3)
  have HO3 := Lib.hid ho3
  clear ho3 he3 hg3
  go_wp2_with fail
  refine (HC3.out _ HE3.out).mono ?_
  rintro e w4 ⟨v4, rfl, ho4, he4, hg4⟩
  obtain ⟨A4, c4, rfl, -, -, -, -⟩ := ho4.shape' (n := T.length) rfl
  have hz4 : w3.heap.size ≤ w4.heap.size := hg4.size
  have HE4 := Lib.hid he4
  have HP4 := Lib.hid (Blk.grown HP3.out hg4 (by intro e; have := Option.some.inj e; omega))
  have HB4 := Lib.hid (HB3.out.trans (below_grown hg4 (by omega) (by omega)) : Below w.heap.size w w4)
  have HO34 := Lib.hid (HO3.out.kept hg4 (.inr (fun e => by have := (HO3.out.lt _ e).1; omega)))
  have HO4 := Lib.hid ho4
  clear ho4 he4 hg4 HC1 HC2 HC3 HE1 HE2 HE3 HP1 HP2 HP3 HB1 HB2 HB3 HO3
  go_wp2_with fail
  have hck := checkWelcome_any HE4.out (c0 := c) (HR.out.below (HB4.out.mono hB')) (by omega) HN.out hy (welC N A3 S.length c3 A4 T.length c4) rfl (welC_one _ _ _ _ _ _ _) (welBytes N S T) (welBad N S.length T.length)
    (fun W3 hb => putWelcome_any N A3 S.length c3 A4 T.length c4 w4.heap.size S T W3 (by omega) (by omega) (HO34.out.rd.below hb) (HO4.out.rd.below hb) hb.size rfl rfl (by omega) (by omega))
  rw [← HQ.out, show (welC N A3 S.length c3 A4 T.length c4).toArray = #[.int .i64 N, .slice A3 S.length c3, .slice A4 T.length c4] from rfl] at hck
  have HCk := Lib.hid hck
  clear hck HE4
  cases q with
  | true =>
    rw [if_pos rfl] at HCk
    refine HCk.out.mono ?_
    rintro e w8 ⟨rfl, hb8⟩
    have hz8 : w4.heap.size ≤ w8.heap.size := hb8.size
    have HP8 := Lib.hid (HP4.out.below hb8 (by omega))
    have HB8 := Lib.hid (HB4.out.trans (hb8.mono (by omega)))
    have HO38 := Lib.hid (HO34.out.below hb8 (Nat.le_refl _))
    have HO48 := Lib.hid (HO4.out.below hb8 (Nat.le_refl _))
    clear hb8
    go_wp2_with (refine wpList_store_blk rfl 41 _ _ rfl w.heap.size rfl (welC N A3 S.length c3 A4 T.length c4) rfl _ _ HP8.out rfl infoWelcome (welC_one _ _ _ _ _ _ _) ?_; intro w9 hp9 hg9; have HP9 := Lib.hid hp9; have HG9 := Lib.hid hg9; clear hp9 hg9)
    refine bodyPost_ret (v := .tuple #[.agg (welC N A3 S.length c3 A4 T.length c4).toArray, .nilIface]) (results_blk_tmp (g := w.heap.size) rfl _ _ _ _ _ _ rfl rfl HP9.out Try.underlying41 rfl infoWelcome) rfl ?_
    exact ⟨HB8.out.grown HG9.out (by omega) (fun k e => by cases e; omega), ⟨A3, c3, A4, c4, rfl, (HO38.out.kept HG9.out (.inr (fun e => by have := (HO38.out.lt _ e).1; omega))).less (by omega), (HO48.out.kept HG9.out (.inr (fun e => by have := (HO48.out.lt _ e).1; omega))).less (by omega)⟩⟩
  | false =>
    rw [if_neg (by simp)] at HCk
    refine HCk.out.mono ?_
    rintro e w8 ⟨rfl, hb8⟩
    have hz8 : w4.heap.size ≤ w8.heap.size := hb8.size
    have HP8 := Lib.hid (HP4.out.below hb8 (by omega))
    have HB8 := Lib.hid (HB4.out.trans (hb8.mono (by omega)))
    have HO38 := Lib.hid (HO34.out.below hb8 (Nat.le_refl _))
    have HO48 := Lib.hid (HO4.out.below hb8 (Nat.le_refl _))
    clear hb8
    go_wp2_with (refine wpList_store_blk rfl 41 _ _ rfl w.heap.size rfl zerosWelcome rfl _ _ HP8.out rfl infoWelcome zerosWelcome_one ?_; intro w9 hp9 hg9; have HP9 := Lib.hid hp9; have HG9 := Lib.hid hg9; clear hp9 hg9)
    refine bodyPost_ret (v := .tuple #[.agg zerosWelcome.toArray, .iface 108 (.int .i64 3)]) (results_blk_tmp (g := w.heap.size) rfl _ _ _ _ _ _ rfl rfl HP9.out Try.underlying41 rfl infoWelcome) rfl ?_
    exact ⟨HB8.out.grown HG9.out (by omega) (fun k e => by cases e; omega), rfl⟩
end Go.Proofs.Ytloglpamnalmeaa
