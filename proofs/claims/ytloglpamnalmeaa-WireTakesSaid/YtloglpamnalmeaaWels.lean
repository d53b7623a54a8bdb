/- CONTRACTS: burrownum.Over; burrowlaw09.answer. PLAIN LAWS: bytes that are put are read back. -/
import Derived.Test.YtloglpamnalmeaaPack
import Derived.Test.YtloglpamnalmeaaBase
import Derived.Test.YtloglpamnalmeaaEyes
namespace Go.Proofs.Ytloglpamnalmeaa
open Go.RowKit
set_option linter.unusedVariables false
set_option linter.unusedSimpArgs false

set_option maxRecDepth 100000 in
set_option maxHeartbeats 1000000 in
theorem over_any {w : World} {B : Nat} {v : Value} {xs : List (BitVec 8)} (ho : Own b8 w B 5 v xs) (hx : xs.length ≤ 1000000000) :
    Calls Try.prog 17 #[v] w fun e w' => e = .returned (.tuple #[]) ∧ w.grownBy w' v.ownBlock := by
  obtain ⟨n, hn⟩ : ∃ n, n = xs.length := ⟨_, rfl⟩
  by_cases h0 : n = 0
  · obtain ⟨A, c, rfl, -, -, -, -⟩ := ho.shape' (n := 0) (by omega)
    clear ho hx hn h0
    go_enter Try.func17, Try.ntmps17
    go_wp2
    go_loopw [2, 5] (fun cv iv wr => iv = .int .i64 0 ∧ wr = w) (fun _ iv _ => 0)
    case atStart => exact ⟨rfl, rfl⟩
    case round =>
      obtain ⟨rfl, rfl⟩ := hrel
      go_wp2
      go_end0
      exact ⟨rfl, World.grownBy.refl _ _⟩
  · obtain ⟨g, cap, rfl, hg, hlt, hcap⟩ := ho.form' hn.symm (by omega)
    have HO := Lib.hid ho
    have Hn := Lib.hid hn
    rw [← hn] at hx
    clear ho hn h0
    go_enter Try.func17, Try.ntmps17
    go_wp2
    go_loopw [2, 5] (fun cv iv wr => ∃ (k : Nat) (ys : List (BitVec 8)), k ≤ n ∧ iv = .int .i64 (k : Int) ∧ ys.length = n ∧ Own b8 wr B 5 (.slice (some ⟨g, 0, none⟩) n cap) ys ∧ w.grownBy wr (some g)) (fun _ iv _ => n - (intOf iv).toNat)
    case atStart => exact ⟨0, xs, by omega, rfl, Hn.out.symm, HO.out, World.grownBy.refl _ _⟩
    case round =>
      obtain ⟨k, ys, hk, rfl, hyl, hown, hgr⟩ := hrel
      by_cases hlt' : k < n
      · have hlt2 : (k : Int) < (n : Int) := by omega
        have hc := hown.at_ (k := k) (by rw [hyl]; exact hlt')
        obtain ⟨x, hx'⟩ : ∃ x, x = ys[k]'(by rw [hyl]; exact hlt') := ⟨_, rfl⟩
        rw [← hx'] at hc
        have c1 : wr.cell? ⟨g, k, none⟩ = some (.int .u8 (bv x)) := hc.1
        have f1 := hc.2
        have Hs := Lib.hid (hown.set_ k (x ^^^ 255#8))
        have Hyl := Lib.hid hyl
        have Hgr := Lib.hid hgr
        clear hc hx' hown hyl hgr
        go_wp2
        go_roundw
        case rel => exact ⟨k + 1, ys.set k (x ^^^ 255#8), by omega, by go_num, by rw [List.length_set]; exact Hyl.out, Hs.out.1, grownBy_trans Hgr.out Hs.out.2 (fun _ e => .inl e)⟩
        case measure => simp [intOf]; omega
      · obtain rfl : k = n := by omega
        go_wp2
        go_end0
        exact ⟨rfl, hgr⟩

set_option maxRecDepth 100000 in
theorem answer_ok {w : World} {B1 B2 : Nat} {A1 A2 : Option Addr} {xs : List (BitVec 8)} {n1 n2 : Nat} (c1 c2 : Nat) (h1 : Rd b8 w B1 A1 xs) (h2 : Rd b8 w B2 A2 xs) (hn1 : xs.length = n1) (hn2 : xs.length = n2) :
    Calls Try.prog 15 #[.slice A1 n1 c1, .nilIface, .slice A2 n2 c2, .bool true] w fun e w' => e = .returned (.bool true) ∧ w = w' := by
  have H := Lib.hid (same_any c1 c2 h1 h2 hn1 hn2)
  clear h1 h2 hn1 hn2
  go_enter Try.func15, Try.ntmps15
  go_wp2_with fail
  refine H.out.mono ?_
  rintro e w' ⟨rfl, rfl⟩
  rw [beq_self_eq_true]
  go_wp2_with fail
  go_ret
  exact ⟨rfl, rfl⟩
set_option maxRecDepth 100000 in
theorem answer_bad {w : World} (A1 : Option Addr) (c1 : Nat) (v : Value) :
    Calls Try.prog 15 #[.slice A1 0 c1, .iface 108 (.int .i64 3), v, .bool false] w fun e w' => e = .returned (.bool true) ∧ w = w' := by
  have hi := is_any 3 3 w
  rw [errV_pos (by simp)] at hi
  have HI := Lib.hid hi
  clear hi
  go_enter Try.func15, Try.ntmps15
  go_wp2_with fail
  refine HI.out.mono ?_
  rintro e w' ⟨rfl, rfl⟩
  rw [beq_self_eq_true]
  go_wp2_with fail
  go_ret
  exact ⟨rfl, rfl⟩

theorem tkO_app {N : Nat} {xs ys : List (BitVec 8)} (h : xs.length = N) : tkO N (xs ++ ys) = xs := by
  unfold tkO; rw [if_neg (by rw [List.length_append]; omega), List.take_append_of_le_length (by omega), List.take_of_length_le (by omega)]
theorem tkR_app {N : Nat} {xs ys : List (BitVec 8)} (h : xs.length = N) : tkR N (xs ++ ys) = ys := by
  subst h
  unfold tkR; rw [if_neg (by rw [List.length_append]; omega), List.drop_left]
theorem tkB_app {N : Nat} {xs ys : List (BitVec 8)} (h : xs.length = N) (b : Bool) : tkB N (xs ++ ys) b = b := by
  unfold tkB; rw [if_neg (by rw [List.length_append]; omega)]
theorem beVal_foldl (xs : List (BitVec 8)) : ∀ a : Nat, xs.foldl (fun a x => 256 * a + x.toNat) a = a * 256 ^ xs.length + beVal xs := by
  induction xs with
  | nil => intro a; simp [beVal]
  | cons x xs ih =>
    intro a
    unfold beVal
    rw [List.foldl_cons, List.foldl_cons, ih, ih, List.length_cons, Nat.pow_succ, Nat.mul_zero, Nat.zero_add, Nat.add_mul, Nat.mul_comm 256 a, Nat.mul_assoc, Nat.mul_comm 256, Nat.add_assoc]
theorem beAt_toNat (N s : Nat) : (beAt (N : Int) s).toNat = N / 256 ^ s % 256 := by
  have h := beAt_nat N s
  rw [wrap_u8v] at h
  unfold bv at h
  omega
theorem beVal_be (N : Nat) : ∀ s, beVal (be (N : Int) s) = N % 256 ^ s
  | 0 => by simp [be, beVal, Nat.mod_one]
  | s + 1 => by
    have h := beVal_foldl (be (N : Int) s) (beAt (N : Int) s).toNat
    rw [be_len, beAt_toNat, beVal_be N s] at h
    have e : beVal (be (N : Int) (s + 1)) = (be (N : Int) s).foldl (fun a x => 256 * a + x.toNat) (beAt (N : Int) s).toNat := by
      show List.foldl _ 0 (beAt (N : Int) s :: be (N : Int) s) = _
      rw [List.foldl_cons, Nat.mul_zero, Nat.zero_add]
    rw [e, beAt_toNat, h, Nat.mod_pow_succ, Nat.mul_comm, Nat.add_comm]
theorem beVal_be_lt {N s : Nat} (h : N < 256 ^ s) : beVal (be (N : Int) s) = N := by rw [beVal_be, Nat.mod_eq_of_lt h]
theorem parse_put (S : List (BitVec 8)) (E F N : Nat) (T : List (BitVec 8)) (hS : S.length = 32) (hE : E < 4294967296) (hF : F < 256) (hN : N < 4294967296) (hT : T.length < 65536) :
    parsePk (pkBytes S E F N T) = ⟨S, E, F, N, T, [], false⟩ := by
  have e : pkBytes S E F N T = S ++ (be E 4 ++ (be F 1 ++ (be N 4 ++ (be (T.length : Int) 2 ++ (T ++ []))))) := by unfold pkBytes groupB rowB; simp only [List.append_assoc, List.append_nil]
  rw [e]
  unfold parsePk
  simp only [tkO_app hS, tkR_app hS, tkB_app hS, tkO_app (be_len _ 4), tkR_app (be_len _ 4), tkB_app (be_len _ 4), tkO_app (be_len _ 1), tkR_app (be_len _ 1), tkB_app (be_len _ 1), tkO_app (be_len _ 2), tkR_app (be_len _ 2), tkB_app (be_len _ 2),
    beVal_be_lt (show E < 256 ^ 4 from hE), beVal_be_lt (show F < 256 ^ 1 from hF), beVal_be_lt (show N < 256 ^ 4 from hN), beVal_be_lt (show T.length < 256 ^ 2 from hT), tkO_app (rfl : T.length = T.length), tkR_app (rfl : T.length = T.length), tkB_app (rfl : T.length = T.length)]
theorem good_put (S : List (BitVec 8)) (E F N : Nat) (T : List (BitVec 8)) (hS : S.length = 32) (hE : E < 4294967296) (hF : F < 256) (hN : N < 4294967296) (hT : T.length < 65536) (hb : pkBad E F N T.length = false) : goodPk (pkBytes S E F N T) = true := by
  unfold goodPk
  rw [parse_put S E F N T hS hE hF hN hT]
  unfold pkGood
  simp [hb]
end Go.Proofs.Ytloglpamnalmeaa

/- CONTRACT: burrowlaw09.alive. -/
namespace Go.Proofs.Ytloglpamnalmeaa
open Go.RowKit
set_option linter.unusedVariables false
set_option linter.unusedSimpArgs false

def zeroPk : List (BitVec 8) := pkBytes zero32 0 0 0 []
theorem zeroPk_len : zeroPk.length = 43 := pkBytes_len _ _ _ _ _ zero32_len
theorem zeroPk_good : goodPk zeroPk = true := good_put zero32 0 0 0 [] zero32_len (by omega) (by omega) (by omega) (by simp) (by decide)
theorem zeroPk_parse : parsePk zeroPk = ⟨zero32, 0, 0, 0, [], [], false⟩ := parse_put zero32 0 0 0 [] zero32_len (by omega) (by omega) (by omega) (by simp)
theorem zeroPk_cut : goodPk (zeroPk.drop 1) = false := by decide +kernel
theorem zeroPk_ok : pkBad 0 0 0 0 = false := by decide

set_option maxRecDepth 100000 in
set_option maxHeartbeats 4000000 in
theorem alive09_any (w : World) : Calls Try.prog 12 #[] w fun e w' => e = .returned (.bool true) ∧ Below w.heap.size w w' := by
  have hp := fun w => putPacket_any zero32 0 0 0 none 0 0 0 [] w zero32_len (by omega) (by omega) (by omega) (by omega) (by omega) (by omega) (Rd.nil_ _ _ _ _) (by omega) rfl (by omega)
  simp only [zeroPk_ok] at hp
  have HP := Lib.hid hp
  clear hp
  go_enter Try.func12, Try.ntmps12
  go_wp2_with fail
  refine (HP.out _).mono ?_
  rintro e w1 ⟨v1, rfl, ho1, hb1⟩
  rw [if_neg (by simp)] at ho1 ⊢
  rw [errV_zero]
  obtain ⟨g1, c1, rfl, -, hlt1, hc1⟩ := ho1.form' zeroPk_len (by omega)
  have hz1 := hb1.size
  have HB1 := Lib.hid hb1
  have hr1 : Rd b8 w1 w1.heap.size (some ⟨g1, 0, none⟩) zeroPk := ho1.rd
  have HR1 := Lib.hid hr1
  have hc1' : (c1 = 1) = False := by simp; omega
  have hc1n : (1 : Nat) ≤ 43 := by omega
  clear ho1 hb1 hr1 HP
  go_wp2_with fail
  refine (takePacket_any HR1.out (Nat.le_refl _) zeroPk_len hc1 (by omega)).mono ?_
  rintro e w2 ⟨hb2, ⟨hg, A2, c2, he, ho2⟩ | ⟨hg, -⟩⟩
  · obtain rfl : e = .returned (.tuple #[.agg (packetC zero32 0 0 0 A2 0 c2).toArray, .nilIface]) := by rw [he, zeroPk_parse]; rfl
    have HB2 := Lib.hid (HB1.out.trans (hb2.mono hz1))
    have hz2 : w1.heap.size ≤ w2.heap.size := hb2.size
    have hz2w : w.heap.size ≤ w2.heap.size := by omega
    have HPl := Lib.hid (packetC_len zero32 0 0 0 A2 0 c2 zero32_len)
    have HZ2 := Lib.hid (show Blk (w2.alloc (.cells (packetC zero32 0 0 0 none 0 0).toArray 26)) w2.heap.size 26 (packetC zero32 0 0 0 none 0 0) from Blk.new w2 _ _)
    have HR2 := Lib.hid (HR1.out.below (hb2.trans ((Below.refl _ _).alloc hz2 (.cells (packetC zero32 0 0 0 none 0 0).toArray 26))))
    have HB2a := Lib.hid (HB2.out.alloc hz2w (.cells (packetC zero32 0 0 0 none 0 0).toArray 26))
    clear hb2 ho2 hg he HR1 HB1
    go_wp2_with (refine wpList_store_blk rfl 26 _ _ rfl w2.heap.size rfl (packetC zero32 0 0 0 A2 0 c2) rfl _ _ HZ2.out (by rw [HPl.out]; rfl) (by rw [HPl.out]; exact infoPacket) (packetC_one _ _ _ _ _ _ _) ?_; intro w3 hp3 hg3; have HP3 := Lib.hid hp3; have HG3 := Lib.hid hg3; clear hp3 hg3)
    have hz3 : w2.heap.size + 1 ≤ w3.heap.size := by have := HG3.out.size; simpa using this
    have hr3 : Rd b8 w3 w1.heap.size (some ⟨g1, 0, none⟩) zeroPk := HR2.out.grown HG3.out (by simp; omega) (by rintro a ha e; cases ha; have := Option.some.inj e; simp at this; omega)
    have HR3 := Lib.hid (hr3.drop 1)
    have HB3 := Lib.hid (HB2a.out.grown HG3.out (by simp; omega) (fun k e => by cases e; exact hz2w))
    have HT3 := Lib.hid (takePacket_any (w := w3) (c := c1 - 1) (hr3.drop 1) (by omega) (n := 42) (by rw [List.length_drop, zeroPk_len]) (by omega) (by omega))
    clear hr3 HR2 HG3 HB2 HB2a HZ2
    refine HT3.out.mono ?_
    rintro e w4 ⟨hb4, ⟨hg, -⟩ | ⟨hg, rfl⟩⟩
    · rw [zeroPk_cut] at hg; cases hg
    have hz4 : w3.heap.size ≤ w4.heap.size := hb4.size
    have HB4 := Lib.hid (HB3.out.trans (hb4.mono (by omega)) : Below w.heap.size w w4)
    have hP4 : Blk w4 w2.heap.size 26 (packetC zero32 0 0 0 A2 0 c2) := HP3.out.below hb4 (by omega)
    have HP4 := Lib.hid (hP4.alloc (.cells (packetC zero32 0 0 0 none 0 0).toArray 26))
    have HZ4 := Lib.hid (show Blk (w4.alloc (.cells (packetC zero32 0 0 0 none 0 0).toArray 26)) w4.heap.size 26 (packetC zero32 0 0 0 none 0 0) from Blk.new w4 _ _)
    have HB4a := Lib.hid (HB4.out.alloc (by omega) (.cells (packetC zero32 0 0 0 none 0 0).toArray 26))
    have hl24 : w2.heap.size < w4.heap.size := by omega
    clear hb4 hg hP4 HT3 HP3 HR3 HB3 HB4
    go_wp2_with (refine wpList_store_blk rfl 26 _ _ rfl w4.heap.size rfl (packetC zero32 0 0 0 none 0 0) rfl _ _ HZ4.out rfl (by rw [packetC_len _ _ _ _ _ _ _ zero32_len]; exact infoPacket) (packetC_one _ _ _ _ _ _ _) ?_; intro w5 hp5 hg5; have HG5 := Lib.hid hg5; have hP5 : PkBox w5 w2.heap.size zero32 0 0 0 A2 0 c2 := Blk.grown HP4.out hg5 (by intro e; have := Option.some.inj e; omega); have c32 := hP5.c32 zero32_len; clear hp5 hg5 hP5)
    have hi := is_any 3 3 w5
    rw [errV_pos (by simp)] at hi
    refine hi.mono ?_
    rintro e w' ⟨rfl, rfl⟩
    rw [beq_self_eq_true]
    clear hi
    go_wp2_with fail
    go_ret
    exact ⟨rfl, HB4a.out.grown HG5.out (by simp; omega) (fun k e => by cases e; omega)⟩
  · rw [zeroPk_good] at hg; cases hg
end Go.Proofs.Ytloglpamnalmeaa

/- CONTRACTS: wire.PutWelcome, burrowref09.PutWelcome. -/
namespace Go.Proofs.Ytloglpamnalmeaa
open Go.RowKit
set_option linter.unusedVariables false
set_option linter.unusedSimpArgs false

/-- a welcome's cells -/
def welC (nm : Int) (A1 : Option Addr) (n1 c1 : Nat) (A2 : Option Addr) (n2 c2 : Nat) : List Value := [.int .i64 nm, .slice A1 n1 c1, .slice A2 n2 c2]
def welBad (nm : Int) (n1 n2 : Nat) : Bool := outOf nm 255 || outOf n1 65535 || outOf n2 65535 || decide (65536 < 5 + n1 + n2)
def welBytes (nm : Int) (s1 s2 : List (BitVec 8)) : List (BitVec 8) := be nm 1 ++ (rowB s1 ++ rowB s2)
theorem welBytes_len (nm : Int) (s1 s2 : List (BitVec 8)) : (welBytes nm s1 s2).length = 5 + s1.length + s2.length := by unfold welBytes; rw [List.length_append, List.length_append, be_len, rowB_len, rowB_len]; omega

set_option maxRecDepth 100000 in
set_option maxHeartbeats 2000000 in
theorem putWelcome_any (nm : Int) (A1 : Option Addr) (n1 c1 : Nat) (A2 : Option Addr) (n2 c2 B' : Nat) (s1 s2 : List (BitVec 8)) (w : World) (e1 : -9223372036854775808 ≤ nm) (e2 : nm < 9223372036854775808)
    (hr1 : Rd b8 w B' A1 s1) (hr2 : Rd b8 w B' A2 s2) (hB' : B' ≤ w.heap.size) (hn1 : s1.length = n1) (hn2 : s2.length = n2) (hy1 : n1 ≤ 1000000) (hy2 : n2 ≤ 1000000) :
    Calls Try.prog 19 #[.agg (welC nm A1 n1 c1 A2 n2 c2).toArray] w fun e w' => ∃ v, e = .returned (.tuple #[v, errV (if welBad nm n1 n2 then 3 else 0)]) ∧ Own b8 w' w.heap.size 5 v (if welBad nm n1 n2 then [] else welBytes nm s1 s2) ∧ Below w.heap.size w w' := by
  have HR1 := Lib.hid hr1
  have HN1 := Lib.hid hn1
  have HR2 := Lib.hid hr2
  have HN2 := Lib.hid hn2
  have HF := Lib.hid (show ∀ W1, (w.alloc (.cells (welC nm A1 n1 c1 A2 n2 c2).toArray 41)).alloc (.cells #[.slice none 0 0, .bool false] 112) = W1 →
      Blk W1 w.heap.size 41 (welC nm A1 n1 c1 A2 n2 c2) ∧ Pen W1 (w.heap.size + 1) (w.heap.size + 1) [] false ∧ Below w.heap.size w W1 ∧ W1.heap.size = w.heap.size + 2 by
    rintro W1 rfl
    refine ⟨Blk.alloc (Blk.new w _ _) _, pen_of (v := .slice none 0 0) ?_ (Own.nil_ _ _ _ _) (Nat.le_refl _), ((Below.refl _ _).alloc (Nat.le_refl _) _).alloc (by simp) _, by simp⟩
    exact Blk.at_size _ [.slice none 0 0, .bool false] (by simp))
  obtain ⟨q, hq⟩ : ∃ q, q = welBad nm n1 n2 := ⟨_, rfl⟩
  have HQ := Lib.hid hq
  rw [← hq]
  clear hr1 hn1 hr2 hn2 hq
  rw [show (welC nm A1 n1 c1 A2 n2 c2).toArray = #[.int .i64 nm, .slice A1 n1 c1, .slice A2 n2 c2] from rfl]
  go_enter Try.func19, Try.ntmps19
  go_wp2_with fail
  generalize hW1 : World.alloc (World.alloc w _) _ = W1
  obtain ⟨hbx1, hp1, hb1, hz1⟩ := HF.out W1 hW1
  clear hW1 HF
  have HBx1 := Lib.hid hbx1
  have HP1 := Lib.hid hp1
  have HB1 := Lib.hid hb1
  clear hbx1 hp1 hb1
  refine (number_in HP1.out nm 1 1 rfl 255 e1 e2 (by omega) (by simp)).mono ?_
  rintro e w2 ⟨rfl, hp2, hb2⟩
  have hz2 : W1.heap.size ≤ w2.heap.size := hb2.size
  have HBx2 := Lib.hid (HBx1.out.below hb2 (by omega))
  have HB2 := Lib.hid (HB1.out.trans (hb2.mono (by omega)) : Below w.heap.size w w2)
  have HP2 := Lib.hid hp2
  have cs1 := HBx2.out.cell 1 rfl
  clear hp2 hb2 HBx1 HP1 HB1 e1 e2
  go_wp2_with fail
  refine (row_any HP2.out (HR1.out.below (HB2.out.mono hB')) (by omega) HN1.out (by rw [List.length_append, be_len]; simp) (by omega)).mono ?_
  rintro e w3 ⟨rfl, ⟨zs1, hp3, hzs1, hzl1⟩, hb3⟩
  have hz3 : w2.heap.size ≤ w3.heap.size := hb3.size
  have HBx3 := Lib.hid (HBx2.out.below hb3 (by omega))
  have HB3 := Lib.hid (HB2.out.trans (hb3.mono (by omega)) : Below w.heap.size w w3)
  have HP3 := Lib.hid hp3
  have HZ1 := Lib.hid hzs1
  have cs2 := HBx3.out.cell 2 rfl
  clear hp3 hb3 HBx2 HP2 HB2 hzs1 cs1
  go_wp2_with fail
  refine (row_any HP3.out (HR2.out.below (HB3.out.mono hB')) (by omega) HN2.out (by rw [List.length_append, List.length_append, be_len]; simp; omega) (by omega)).mono ?_
  rintro e w4 ⟨rfl, ⟨zs2, hp4, hzs2, hzl2⟩, hb4⟩
  have HP4 := Lib.hid hp4
  have HZ2 := Lib.hid hzs2
  have HBe := Lib.hid (HB3.out.trans (hb4.mono (by omega)) : Below w.heap.size w w4)
  clear hp4 hb4 hzs2 cs2
  go_wp2_with fail
  have hend := end_any HP4.out
  have hkey : endBad (false || outOf nm 255 || outOf n1 65535 || outOf n2 65535) ([] ++ be nm 1 ++ zs1 ++ zs2) = q ∧ (q = false → [] ++ be nm 1 ++ zs1 ++ zs2 = welBytes nm s1 s2) := by
    have h1 := HZ1.out
    have h2 := HZ2.out
    rw [HQ.out]
    unfold welBad
    rw [Bool.false_or] at h1 h2 ⊢
    cases hx : (outOf nm 255 || outOf n1 65535 || outOf n2 65535) with
    | true => exact ⟨rfl, fun h => by simp at h⟩
    | false =>
      have hx1 := (Bool.or_eq_false_iff.1 hx).1
      obtain rfl := h1 hx1
      obtain rfl := h2 hx
      refine ⟨?_, fun _ => by unfold welBytes; simp only [List.nil_append, List.append_assoc]⟩
      unfold endBad
      simp only [Bool.false_or, List.nil_append, List.length_append, be_len, rowB_len, HN1.out, HN2.out]
      congr 1
      apply propext; constructor <;> intro <;> omega
  rw [hkey.1] at hend
  have Hx := Lib.hid hkey.2
  have HEnd := Lib.hid hend
  clear hend hkey
  cases q with
  | true =>
    refine HEnd.out.mono ?_
    rintro e w5 ⟨⟨v5, rfl, ho5⟩, rfl⟩
    rw [if_pos rfl] at ho5
    have HO5 := Lib.hid ho5
    clear ho5
    go_wp2_with fail
    go_ret2
    exact ⟨_, rfl, HO5.out.less (by omega), HBe.out⟩
  | false =>
    refine HEnd.out.mono ?_
    rintro e w5 ⟨⟨v5, rfl, ho5⟩, rfl⟩
    rw [if_neg (by simp), Hx.out rfl] at ho5
    have HO5 := Lib.hid ho5
    clear ho5
    go_wp2_with fail
    go_ret2
    exact ⟨_, rfl, HO5.out.less (by omega), HBe.out⟩
end Go.Proofs.Ytloglpamnalmeaa

/- CONTRACT: wire.check for Welcome. -/
namespace Go.Proofs.Ytloglpamnalmeaa
open Go.RowKit
set_option linter.unusedVariables false
set_option linter.unusedSimpArgs false

def zerosWelcome : List Value := [.int .i64 0, .slice none 0 0, .slice none 0 0]
theorem zerosWelcome_len : zerosWelcome.length = 3 := by decide +kernel
theorem zerosWelcome_one : ∀ u ∈ zerosWelcome, u.oneCell' = true := by decide +kernel
theorem infoWelcome : (Try.prog.info? 41).map (·.size) = some 3 := by kernel_rfl
set_option maxRecDepth 100000 in
set_option maxHeartbeats 4000000 in
theorem checkWelcome_any {w : World} {B g : Nat} {rest : List (BitVec 8)} {bad : Bool} (hE : Eye w B g rest bad) {A0 : Option Addr} {n0 c0 B0 : Nat} {bs : List (BitVec 8)} (hb : Rd b8 w B0 A0 bs) (hB0 : B0 ≤ w.heap.size) (hn0 : bs.length = n0) (hy0 : n0 ≤ 1000000)
    (cs : List Value) (hcs : cs.length = 3) (hone : ∀ u ∈ cs, u.oneCell' = true) (X : List (BitVec 8)) (r : Bool)
    (hput : ∀ W3, Below w.heap.size w W3 → Calls Try.prog 19 #[.agg cs.toArray] W3 fun e w' => ∃ v, e = .returned (.tuple #[v, errV (if r then 3 else 0)]) ∧ Own b8 w' W3.heap.size 5 v (if r then [] else X) ∧ Below W3.heap.size W3 w') :
    Calls Try.prog 63 #[.pointer (some ⟨g, 0, none⟩), .slice A0 n0 c0, .agg cs.toArray, .func (.func 19) #[] #[]] w fun e w' =>
      e = .returned (if chkGood bad rest bs r X then .tuple #[.agg cs.toArray, .nilIface] else .tuple #[.agg zerosWelcome.toArray, .iface 108 (.int .i64 3)]) ∧ Below w.heap.size w w' := by
  have HPut := Lib.hid hput
  have HBs := Lib.hid hb
  have HN0 := Lib.hid hn0
  have HCs := Lib.hid hcs
  have HOne := Lib.hid hone
  have hgl := hE.lt
  have hgl1 : g < w.heap.size + 1 := by omega
  have hgl2 : g < w.heap.size + 1 + 1 := by omega
  obtain ⟨⟨Ae, ce, he, hre, hce⟩, hle⟩ := hE
  have ce0 := he.cell 0 rfl
  have ce1 := he.cell 1 rfl
  have HF := Lib.hid (show ∀ W3, ((w.alloc (.cells cs.toArray 41)).alloc (.cells zerosWelcome.toArray 41)).alloc (.cells zerosWelcome.toArray 41) = W3 →
      Blk W3 w.heap.size 41 cs ∧ Blk W3 (w.heap.size + 1) 41 zerosWelcome ∧ Blk W3 (w.heap.size + 1 + 1) 41 zerosWelcome ∧ Below w.heap.size w W3 ∧ W3.heap.size = w.heap.size + 3 by
    rintro W3 rfl
    refine ⟨Blk.alloc (Blk.alloc (Blk.new w _ _) _) _, Blk.alloc (Blk.at_size _ _ (by simp)) _, Blk.at_size _ _ (by simp), (((Below.refl _ _).alloc (Nat.le_refl _) _).alloc (by simp) _).alloc (by simp; omega) _, by simp⟩)
  obtain ⟨q, hq⟩ : ∃ q, q = chkGood bad rest bs r X := ⟨_, rfl⟩
  rw [← hq]
  have HQ := Lib.hid hq
  clear he hre hput hb hn0 hq hcs hone
  cases bad with
  | true =>
    have hq0 : q = false := by rw [HQ.out]; unfold chkGood; simp
    subst hq0
    go_enter Try.func63, Try.ntmps63
    go_wp2_with (first
      | (generalize hW3 : World.alloc (World.alloc (World.alloc w _) _) _ = W3; have hf3 := HF.out W3 hW3; clear hW3; obtain ⟨hp3, hz3, hn3, hb3, hs3⟩ := hf3; have HZ3 := Lib.hid hz3; have HN3 := Lib.hid hn3; have HB3 := Lib.hid hb3; clear hp3 hz3 hn3 hb3; refine wpList_load_mid rfl 41 (.tmp 10) rfl (w.heap.size + 1 + 1) 0 rfl zerosWelcome _ (Blk.whole HN3.out) Try.underlying41 rfl (by rw [zerosWelcome_len]; exact infoWelcome) ?_)
      | (refine wpList_store_blk rfl 41 _ _ rfl (w.heap.size + 1) rfl zerosWelcome rfl _ _ HZ3.out rfl (by rw [zerosWelcome_len]; exact infoWelcome) zerosWelcome_one ?_; intro w4 hp4 hg4; have HP4 := Lib.hid hp4; have HG4 := Lib.hid hg4; clear hp4 hg4))
    refine bodyPost_ret (v := .tuple #[.agg zerosWelcome.toArray, .iface 108 (.int .i64 3)]) (results_blk_tmp (g := w.heap.size + 1) rfl _ _ _ _ _ _ rfl rfl HP4.out Try.underlying41 rfl (by rw [zerosWelcome_len]; exact infoWelcome)) rfl ?_
    exact ⟨rfl, HB3.out.grown HG4.out (by omega) (fun k e => by cases e; omega)⟩
  | false =>
    by_cases hrest : rest = []
    · subst hrest
      go_enter Try.func63, Try.ntmps63
      go_wp2_with (generalize hW3 : World.alloc (World.alloc (World.alloc w _) _) _ = W3; have hf3 := HF.out W3 hW3; clear hW3; obtain ⟨hp3, hz3, hn3, hb3, hs3⟩ := hf3; have HP3 := Lib.hid hp3; have HZ3 := Lib.hid hz3; have HN3 := Lib.hid hn3; have HB3 := Lib.hid hb3; clear hp3 hz3 hn3 hb3; refine wpList_load_mid rfl 41 (.tmp 6) rfl w.heap.size 0 rfl cs _ (Blk.whole HP3.out) Try.underlying41 rfl (by rw [HCs.out]; exact infoWelcome) ?_)
      refine (HPut.out W3 HB3.out).mono ?_
      rintro e w4 ⟨v4, rfl, ho4, hb4⟩
      have HZ4 := Lib.hid (HZ3.out.below hb4 (by omega))
      have HN4 := Lib.hid (HN3.out.below hb4 (by omega))
      have HP4 := Lib.hid (HP3.out.below hb4 (by omega))
      have HB4 := Lib.hid (HB3.out.trans (hb4.mono (by omega)))
      have hz4 : W3.heap.size ≤ w4.heap.size := hb4.size
      cases r with
      | true =>
        have hq0 : q = false := by rw [HQ.out]; unfold chkGood; simp
        subst hq0
        rw [if_pos rfl, errV_pos (by simp)]
        clear ho4 hb4
        go_wp2_with (first
          | (refine wpList_load_mid rfl 41 (.tmp 10) rfl (w.heap.size + 1 + 1) 0 rfl zerosWelcome _ (Blk.whole HN4.out) Try.underlying41 rfl (by rw [zerosWelcome_len]; exact infoWelcome) ?_)
          | (refine wpList_store_blk rfl 41 _ _ rfl (w.heap.size + 1) rfl zerosWelcome rfl _ _ HZ4.out rfl (by rw [zerosWelcome_len]; exact infoWelcome) zerosWelcome_one ?_; intro w6 hp6 hg6; have HP6 := Lib.hid hp6; have HG6 := Lib.hid hg6; clear hp6 hg6))
        refine bodyPost_ret (v := .tuple #[.agg zerosWelcome.toArray, .iface 108 (.int .i64 3)]) (results_blk_tmp (g := w.heap.size + 1) rfl _ _ _ _ _ _ rfl rfl HP6.out Try.underlying41 rfl (by rw [zerosWelcome_len]; exact infoWelcome)) rfl ?_
        exact ⟨rfl, HB4.out.grown HG6.out (by omega) (fun k e => by cases e; omega)⟩
      | false =>
        rw [if_neg (by simp)] at ho4
        rw [if_neg (by simp), errV_zero]
        obtain ⟨A4, c4, rfl, hr4, -, -, -⟩ := ho4.shape
        have HR4 := Lib.hid hr4
        clear ho4 hb4 hr4
        go_wp2_with fail
        have heq := equal_any (B1 := B0) (B2 := w4.heap.size) (c1 := c0) (c2 := c4) (HBs.out.below (HB4.out.mono hB0)) HR4.out HN0.out rfl (by omega) (Nat.le_refl _) (by omega)
        obtain ⟨y, hy'⟩ : ∃ y, y = (bs == X) := ⟨_, rfl⟩
        rw [← hy'] at heq
        have HEq := Lib.hid heq
        have HYy := Lib.hid hy'
        clear heq hy'
        refine HEq.out.mono ?_
        rintro e w5 ⟨rfl, hb5⟩
        have hz5 : w4.heap.size ≤ w5.heap.size := hb5.size
        have HZ4 := Lib.hid (HZ4.out.below hb5 (by omega))
        have HN4 := Lib.hid (HN4.out.below hb5 (by omega))
        have HP4 := Lib.hid (HP4.out.below hb5 (by omega))
        have HB4 := Lib.hid (HB4.out.trans (hb5.mono (by omega)))
        clear hb5
        cases y with
        | false =>
          have hq0 : q = false := by rw [HQ.out]; unfold chkGood; rw [← HYy.out]; simp
          subst hq0
          go_wp2_with (first
            | (refine wpList_load_mid rfl 41 (.tmp 10) rfl (w.heap.size + 1 + 1) 0 rfl zerosWelcome _ (Blk.whole HN4.out) Try.underlying41 rfl (by rw [zerosWelcome_len]; exact infoWelcome) ?_)
            | (refine wpList_store_blk rfl 41 _ _ rfl (w.heap.size + 1) rfl zerosWelcome rfl _ _ HZ4.out rfl (by rw [zerosWelcome_len]; exact infoWelcome) zerosWelcome_one ?_; intro w6 hp6 hg6; have HP6 := Lib.hid hp6; have HG6 := Lib.hid hg6; clear hp6 hg6))
          refine bodyPost_ret (v := .tuple #[.agg zerosWelcome.toArray, .iface 108 (.int .i64 3)]) (results_blk_tmp (g := w.heap.size + 1) rfl _ _ _ _ _ _ rfl rfl HP6.out Try.underlying41 rfl (by rw [zerosWelcome_len]; exact infoWelcome)) rfl ?_
          exact ⟨rfl, HB4.out.grown HG6.out (by omega) (fun k e => by cases e; omega)⟩
        | true =>
          have hq0 : q = true := by rw [HQ.out]; unfold chkGood; rw [← HYy.out]; rfl
          subst hq0
          go_wp2_with (first
            | (refine wpList_load_mid rfl 41 (.tmp 6) rfl w.heap.size 0 rfl cs _ (Blk.whole HP4.out) Try.underlying41 rfl (by rw [HCs.out]; exact infoWelcome) ?_)
            | (refine wpList_store_blk rfl 41 _ _ rfl (w.heap.size + 1) rfl cs rfl _ _ HZ4.out (by rw [zerosWelcome_len, HCs.out]) (by rw [HCs.out]; exact infoWelcome) HOne.out ?_; intro w6 hp6 hg6; have HP6 := Lib.hid hp6; have HG6 := Lib.hid hg6; clear hp6 hg6))
          refine bodyPost_ret (v := .tuple #[.agg cs.toArray, .nilIface]) (results_blk_tmp (g := w.heap.size + 1) rfl _ _ _ _ _ _ rfl rfl HP6.out Try.underlying41 rfl (by rw [HCs.out]; exact infoWelcome)) rfl ?_
          exact ⟨rfl, HB4.out.grown HG6.out (by omega) (fun k e => by cases e; omega)⟩
    · have hl : (0 : Int) < (rest.length : Int) := by have := List.length_pos_iff.2 hrest; omega
      have hq0 : q = false := by rw [HQ.out]; unfold chkGood; cases rest with
        | nil => exact absurd rfl hrest
        | cons x xs => simp
      subst hq0
      clear hrest
      go_enter Try.func63, Try.ntmps63
      go_wp2_with (first
        | (generalize hW3 : World.alloc (World.alloc (World.alloc w _) _) _ = W3; have hf3 := HF.out W3 hW3; clear hW3; obtain ⟨hp3, hz3, hn3, hb3, hs3⟩ := hf3; have HZ3 := Lib.hid hz3; have HN3 := Lib.hid hn3; have HB3 := Lib.hid hb3; clear hp3 hz3 hn3 hb3; refine wpList_load_mid rfl 41 (.tmp 10) rfl (w.heap.size + 1 + 1) 0 rfl zerosWelcome _ (Blk.whole HN3.out) Try.underlying41 rfl (by rw [zerosWelcome_len]; exact infoWelcome) ?_)
        | (refine wpList_store_blk rfl 41 _ _ rfl (w.heap.size + 1) rfl zerosWelcome rfl _ _ HZ3.out rfl (by rw [zerosWelcome_len]; exact infoWelcome) zerosWelcome_one ?_; intro w4 hp4 hg4; have HP4 := Lib.hid hp4; have HG4 := Lib.hid hg4; clear hp4 hg4))
      refine bodyPost_ret (v := .tuple #[.agg zerosWelcome.toArray, .iface 108 (.int .i64 3)]) (results_blk_tmp (g := w.heap.size + 1) rfl _ _ _ _ _ _ rfl rfl HP4.out Try.underlying41 rfl (by rw [zerosWelcome_len]; exact infoWelcome)) rfl ?_
      exact ⟨rfl, HB3.out.grown HG4.out (by omega) (fun k e => by cases e; omega)⟩
end Go.Proofs.Ytloglpamnalmeaa

/- CONTRACT: wire.TakeWelcome. PLAIN LAW: a welcome that is put is read back. -/
namespace Go.Proofs.Ytloglpamnalmeaa
open Go.RowKit
set_option linter.unusedVariables false
set_option linter.unusedSimpArgs false

structure ParsedW where
  nm : Nat
  s1 : List (BitVec 8)
  s2 : List (BitVec 8)
  rest : List (BitVec 8)
  bad : Bool
def rowO (ys : List (BitVec 8)) : List (BitVec 8) := tkO (beVal (tkO 2 ys)) (tkR 2 ys)
def rowR (ys : List (BitVec 8)) : List (BitVec 8) := tkR (beVal (tkO 2 ys)) (tkR 2 ys)
def rowD (ys : List (BitVec 8)) (b : Bool) : Bool := tkB (beVal (tkO 2 ys)) (tkR 2 ys) (tkB 2 ys b)
theorem rowO_len (ys : List (BitVec 8)) : (rowO ys).length < 65536 := by unfold rowO; rw [tkO_len]; exact beVal_lt 2 _ (tkO_len _ _)
theorem rowR_le (ys : List (BitVec 8)) : (rowR ys).length ≤ ys.length := Nat.le_trans (tkR_le _ _) (tkR_le _ _)
def parseW (bs : List (BitVec 8)) : ParsedW := ⟨beVal (tkO 1 bs), rowO (tkR 1 bs), rowO (rowR (tkR 1 bs)), rowR (rowR (tkR 1 bs)), rowD (rowR (tkR 1 bs)) (rowD (tkR 1 bs) (tkB 1 bs false))⟩
def goodW (bs : List (BitVec 8)) : Bool := chkGood (parseW bs).bad (parseW bs).rest bs (welBad (parseW bs).nm (parseW bs).s1.length (parseW bs).s2.length) (welBytes (parseW bs).nm (parseW bs).s1 (parseW bs).s2)
theorem rowO_app {xs ys : List (BitVec 8)} (h : xs.length < 65536) : rowO (rowB xs ++ ys) = xs := by
  unfold rowO rowB
  rw [List.append_assoc]
  simp only [tkO_app (be_len _ 2), tkR_app (be_len _ 2), tkB_app (be_len _ 2), beVal_be_lt (show xs.length < 256 ^ 2 from h), tkO_app (rfl : xs.length = xs.length), tkR_app (rfl : xs.length = xs.length), tkB_app (rfl : xs.length = xs.length)]
theorem rowR_app {xs ys : List (BitVec 8)} (h : xs.length < 65536) : rowR (rowB xs ++ ys) = ys := by
  unfold rowR rowB
  rw [List.append_assoc]
  simp only [tkO_app (be_len _ 2), tkR_app (be_len _ 2), tkB_app (be_len _ 2), beVal_be_lt (show xs.length < 256 ^ 2 from h), tkO_app (rfl : xs.length = xs.length), tkR_app (rfl : xs.length = xs.length), tkB_app (rfl : xs.length = xs.length)]
theorem rowD_app {xs ys : List (BitVec 8)} (h : xs.length < 65536) (b : Bool) : rowD (rowB xs ++ ys) b = b := by
  unfold rowD rowB
  rw [List.append_assoc]
  simp only [tkO_app (be_len _ 2), tkR_app (be_len _ 2), tkB_app (be_len _ 2), beVal_be_lt (show xs.length < 256 ^ 2 from h), tkO_app (rfl : xs.length = xs.length), tkR_app (rfl : xs.length = xs.length), tkB_app (rfl : xs.length = xs.length)]
theorem parseW_put (nm : Nat) (s1 s2 : List (BitVec 8)) (hm : nm < 256) (h1 : s1.length < 65536) (h2 : s2.length < 65536) : parseW (welBytes nm s1 s2) = ⟨nm, s1, s2, [], false⟩ := by
  have e : welBytes nm s1 s2 = be (nm : Int) 1 ++ (rowB s1 ++ (rowB s2 ++ [])) := by unfold welBytes; simp only [List.append_nil]
  rw [e]
  unfold parseW
  simp only [tkO_app (be_len _ 1), tkR_app (be_len _ 1), tkB_app (be_len _ 1), beVal_be_lt (show nm < 256 ^ 1 from hm), rowO_app h1, rowR_app h1, rowD_app h1, rowO_app h2, rowR_app h2, rowD_app h2]
theorem goodW_put (nm : Nat) (s1 s2 : List (BitVec 8)) (hm : nm < 256) (h1 : s1.length < 65536) (h2 : s2.length < 65536) (hb : welBad nm s1.length s2.length = false) : goodW (welBytes nm s1 s2) = true := by
  unfold goodW
  rw [parseW_put nm s1 s2 hm h1 h2]
  unfold chkGood
  simp [hb]
theorem welC_one (nm : Int) (A1 : Option Addr) (n1 c1 : Nat) (A2 : Option Addr) (n2 c2 : Nat) : ∀ u ∈ welC nm A1 n1 c1 A2 n2 c2, u.oneCell' = true := by
  intro u hu
  simp only [welC, List.mem_cons, List.not_mem_nil, or_false] at hu
  rcases hu with rfl | rfl | rfl <;> rfl

set_option maxRecDepth 100000 in
set_option maxHeartbeats 4000000 in
theorem takeWelcome_any {w : World} {B' : Nat} {A : Option Addr} {n c : Nat} {bs : List (BitVec 8)} (hr : Rd b8 w B' A bs) (hB' : B' ≤ w.heap.size) (hn : bs.length = n) (hnc : n ≤ c) (hy : n ≤ 1000000) :
    Calls Try.prog 21 #[.slice A n c] w fun e w' => Below w.heap.size w w' ∧
      ((goodW bs = true ∧ ∃ A1 c1 A2 c2, e = .returned (.tuple #[.agg (welC (parseW bs).nm A1 (parseW bs).s1.length c1 A2 (parseW bs).s2.length c2).toArray, .nilIface]) ∧ Own b8 w' w.heap.size 5 (.slice A1 (parseW bs).s1.length c1) (parseW bs).s1 ∧ Own b8 w' w.heap.size 5 (.slice A2 (parseW bs).s2.length c2) (parseW bs).s2) ∨
       (goodW bs = false ∧ e = .returned (.tuple #[.agg zerosWelcome.toArray, .iface 108 (.int .i64 3)]))) := by
  have HR := Lib.hid hr
  have HN := Lib.hid hn
  obtain ⟨N, hNN⟩ : ∃ N, N = beVal (tkO 1 bs) := ⟨_, rfl⟩
  obtain ⟨r1, hr1⟩ : ∃ r, r = tkR 1 bs := ⟨_, rfl⟩
  obtain ⟨d1, hd1⟩ : ∃ d, d = tkB 1 bs false := ⟨_, rfl⟩
  obtain ⟨S, hS⟩ : ∃ S, S = rowO r1 := ⟨_, rfl⟩
  obtain ⟨r2, hr2⟩ : ∃ r, r = rowR r1 := ⟨_, rfl⟩
  obtain ⟨d2, hd2⟩ : ∃ d, d = rowD r1 d1 := ⟨_, rfl⟩
  obtain ⟨T, hT⟩ : ∃ T, T = rowO r2 := ⟨_, rfl⟩
  obtain ⟨R, hRR⟩ : ∃ R, R = rowR r2 := ⟨_, rfl⟩
  obtain ⟨D, hD⟩ : ∃ D, D = rowD r2 d2 := ⟨_, rfl⟩
  have hpp : parseW bs = ⟨N, S, T, R, D⟩ := by subst hD hRR hT hd2 hr2 hS hd1 hr1 hNN; rfl
  have hgg : goodW bs = chkGood D R bs (welBad N S.length T.length) (welBytes N S T) := by unfold goodW; rw [hpp]
  rw [hpp, hgg]
  obtain ⟨q, hq⟩ : ∃ q, q = chkGood D R bs (welBad N S.length T.length) (welBytes N S T) := ⟨_, rfl⟩
  rw [← hq]
  have HQ := Lib.hid hq
  have hN1 : N < 256 := by rw [hNN]; exact beVal_lt 1 _ (tkO_len _ _)
  have hSl : S.length < 65536 := by rw [hS]; exact rowO_len _
  have hTl : T.length < 65536 := by rw [hT]; exact rowO_len _
  have hl1 : r1.length ≤ bs.length := by rw [hr1]; exact tkR_le _ _
  have hl2 : r2.length ≤ r1.length := by rw [hr2]; exact rowR_le _
  have hb0 : bs.length ≤ 1000000 := by rw [hn]; exact hy
  have HC1 := Lib.hid (fun (W : World) (h : Eye W w.heap.size (w.heap.size + 1) bs false) => (show Calls Try.prog 60 #[.pointer (some ⟨w.heap.size + 1, 0, none⟩), .int .i64 1] W fun e w' => e = .returned (.int .i64 (N : Int)) ∧ Eye w' w.heap.size (w.heap.size + 1) r1 d1 ∧ W.grownBy w' (some (w.heap.size + 1)) by have := numE_any h 1 1 rfl (by omega) (by omega); rw [← hNN, ← hr1, ← hd1] at this; exact this))
  have HC2 := Lib.hid (fun (W : World) (h : Eye W w.heap.size (w.heap.size + 1) r1 d1) => (show Calls Try.prog 61 #[.pointer (some ⟨w.heap.size + 1, 0, none⟩)] W fun e w' => ∃ v, e = .returned v ∧ Own b8 w' W.heap.size 5 v S ∧ Eye w' w.heap.size (w.heap.size + 1) r2 d2 ∧ W.grownBy w' (some (w.heap.size + 1)) by rw [hS, hr2, hd2]; exact rowE_any h (by omega)))
  have HC3 := Lib.hid (fun (W : World) (h : Eye W w.heap.size (w.heap.size + 1) r2 d2) => (show Calls Try.prog 61 #[.pointer (some ⟨w.heap.size + 1, 0, none⟩)] W fun e w' => ∃ v, e = .returned v ∧ Own b8 w' W.heap.size 5 v T ∧ Eye w' w.heap.size (w.heap.size + 1) R D ∧ W.grownBy w' (some (w.heap.size + 1)) by rw [hT, hRR, hD]; exact rowE_any h (by omega)))
  clear hS hr1 hd1 hr2 hd2 hNN hT hRR hD hpp hgg hq hl1 hl2 hb0
  have HF := Lib.hid (show ∀ W1, (w.alloc (.cells zerosWelcome.toArray 41)).alloc (.cells #[.slice A n c, .bool false] 121) = W1 →
      Blk W1 w.heap.size 41 zerosWelcome ∧ Eye W1 w.heap.size (w.heap.size + 1) bs false ∧ Below w.heap.size w W1 ∧ W1.heap.size = w.heap.size + 2 by
    rintro W1 rfl
    have hb : Below w.heap.size w ((w.alloc (.cells zerosWelcome.toArray 41)).alloc (.cells #[.slice A n c, .bool false] 121)) := ((Below.refl _ _).alloc (Nat.le_refl _) _).alloc (by simp) _
    refine ⟨Blk.alloc (Blk.new w _ _) _, ⟨⟨A, c, ?_, (HR.out.below (hb.mono hB')).more hB', by rw [HN.out]; exact hnc⟩, by omega⟩, hb, by simp⟩
    rw [HN.out]
    exact Blk.at_size _ [.slice A n c, .bool false] (by simp))
  clear hr hn
  go_enter Try.func21, Try.ntmps21
  go_wp2_with fail
  generalize hW1 : World.alloc (World.alloc w _) _ = W1
  obtain ⟨hp1, he1, hb1, hz1⟩ := HF.out W1 hW1
  clear hW1 HF
  have HP1 := Lib.hid hp1
  have HE1 := Lib.hid he1
  have HB1 := Lib.hid hb1
  clear hp1 he1 hb1
  refine (HC1.out _ HE1.out).mono ?_
  rintro e w2 ⟨rfl, he2, hg2⟩
  have hz2 : W1.heap.size ≤ w2.heap.size := hg2.size
  have HE2 := Lib.hid he2
  have HP2 := Lib.hid (Blk.grown HP1.out hg2 (by intro e; have := Option.some.inj e; omega))
  have HB2 := Lib.hid (HB1.out.trans (below_grown hg2 (by omega) (by omega)) : Below w.heap.size w w2)
  clear he2 hg2
  go_wp2_with fail
  refine (HC2.out _ HE2.out).mono ?_
  rintro e w3 ⟨v3, rfl, ho3, he3, hg3⟩
  obtain ⟨A3, c3, rfl, -, -, -, -⟩ := ho3.shape' (n := S.length) rfl
  have hz3 : w2.heap.size ≤ w3.heap.size := hg3.size
  have HE3 := Lib.hid he3
  have HP3 := Lib.hid (Blk.grown HP2.out hg3 (by intro e; have := Option.some.inj e; omega))
  have HB3 := Lib.hid (HB2.out.trans (below_grown hg3 (by omega) (by omega)) : Below w.heap.size w w3)
  have HO3 := Lib.hid ho3
  clear ho3 he3 hg3
  go_wp2_with fail
  refine (HC3.out _ HE3.out).mono ?_
  rintro e w4 ⟨v4, rfl, ho4, he4, hg4⟩
  obtain ⟨A4, c4, rfl, -, -, -, -⟩ := ho4.shape' (n := T.length) rfl
  have hz4 : w3.heap.size ≤ w4.heap.size := hg4.size
  have HE4 := Lib.hid he4
  have HP4 := Lib.hid (Blk.grown HP3.out hg4 (by intro e; have := Option.some.inj e; omega))
  have HB4 := Lib.hid (HB3.out.trans (below_grown hg4 (by omega) (by omega)) : Below w.heap.size w w4)
  have HO34 := Lib.hid (HO3.out.kept hg4 (.inr (fun e => by have := (HO3.out.lt _ e).1; omega)))
  have HO4 := Lib.hid ho4
  clear ho4 he4 hg4 HC1 HC2 HC3 HE1 HE2 HE3 HP1 HP2 HP3 HB1 HB2 HB3 HO3
  go_wp2_with fail
  have hck := checkWelcome_any HE4.out (c0 := c) (HR.out.below (HB4.out.mono hB')) (by omega) HN.out hy (welC N A3 S.length c3 A4 T.length c4) rfl (welC_one _ _ _ _ _ _ _) (welBytes N S T) (welBad N S.length T.length)
    (fun W3 hb => putWelcome_any N A3 S.length c3 A4 T.length c4 w4.heap.size S T W3 (by omega) (by omega) (HO34.out.rd.below hb) (HO4.out.rd.below hb) hb.size rfl rfl (by omega) (by omega))
  rw [← HQ.out, show (welC N A3 S.length c3 A4 T.length c4).toArray = #[.int .i64 N, .slice A3 S.length c3, .slice A4 T.length c4] from rfl] at hck
  have HCk := Lib.hid hck
  clear hck HE4
  cases q with
  | true =>
    rw [if_pos rfl] at HCk
    refine HCk.out.mono ?_
    rintro e w8 ⟨rfl, hb8⟩
    have hz8 : w4.heap.size ≤ w8.heap.size := hb8.size
    have HP8 := Lib.hid (HP4.out.below hb8 (by omega))
    have HB8 := Lib.hid (HB4.out.trans (hb8.mono (by omega)))
    have HO38 := Lib.hid (HO34.out.below hb8 (Nat.le_refl _))
    have HO48 := Lib.hid (HO4.out.below hb8 (Nat.le_refl _))
    clear hb8
    go_wp2_with (refine wpList_store_blk rfl 41 _ _ rfl w.heap.size rfl (welC N A3 S.length c3 A4 T.length c4) rfl _ _ HP8.out rfl infoWelcome (welC_one _ _ _ _ _ _ _) ?_; intro w9 hp9 hg9; have HP9 := Lib.hid hp9; have HG9 := Lib.hid hg9; clear hp9 hg9)
    refine bodyPost_ret (v := .tuple #[.agg (welC N A3 S.length c3 A4 T.length c4).toArray, .nilIface]) (results_blk_tmp (g := w.heap.size) rfl _ _ _ _ _ _ rfl rfl HP9.out Try.underlying41 rfl infoWelcome) rfl ?_
    exact ⟨HB8.out.grown HG9.out (by omega) (fun k e => by cases e; omega), ⟨A3, c3, A4, c4, rfl, (HO38.out.kept HG9.out (.inr (fun e => by have := (HO38.out.lt _ e).1; omega))).less (by omega), (HO48.out.kept HG9.out (.inr (fun e => by have := (HO48.out.lt _ e).1; omega))).less (by omega)⟩⟩
  | false =>
    rw [if_neg (by simp)] at HCk
    refine HCk.out.mono ?_
    rintro e w8 ⟨rfl, hb8⟩
    have hz8 : w4.heap.size ≤ w8.heap.size := hb8.size
    have HP8 := Lib.hid (HP4.out.below hb8 (by omega))
    have HB8 := Lib.hid (HB4.out.trans (hb8.mono (by omega)))
    have HO38 := Lib.hid (HO34.out.below hb8 (Nat.le_refl _))
    have HO48 := Lib.hid (HO4.out.below hb8 (Nat.le_refl _))
    clear hb8
    go_wp2_with (refine wpList_store_blk rfl 41 _ _ rfl w.heap.size rfl zerosWelcome rfl _ _ HP8.out rfl infoWelcome zerosWelcome_one ?_; intro w9 hp9 hg9; have HP9 := Lib.hid hp9; have HG9 := Lib.hid hg9; clear hp9 hg9)
    refine bodyPost_ret (v := .tuple #[.agg zerosWelcome.toArray, .iface 108 (.int .i64 3)]) (results_blk_tmp (g := w.heap.size) rfl _ _ _ _ _ _ rfl rfl HP9.out Try.underlying41 rfl infoWelcome) rfl ?_
    exact ⟨HB8.out.grown HG9.out (by omega) (fun k e => by cases e; omega), rfl⟩
end Go.Proofs.Ytloglpamnalmeaa
