/- CONTRACT: wire.TakePacket. -/
import Derived.Test.YtloglpamnalmeaaChkPk
import Derived.Laws.Tables
namespace Go.Proofs.Ytloglpamnalmeaa
open Go.RowKit
set_option linter.unusedVariables false
set_option linter.unusedSimpArgs false

theorem list32 {α : Type} {xs : List α} (h : xs.length = 32) : ∃ x0 x1 x2 x3 x4 x5 x6 x7 x8 x9 x10 x11 x12 x13 x14 x15 x16 x17 x18 x19 x20 x21 x22 x23 x24 x25 x26 x27 x28 x29 x30 x31, xs = [x0, x1, x2, x3, x4, x5, x6, x7, x8, x9, x10, x11, x12, x13, x14, x15, x16, x17, x18, x19, x20, x21, x22, x23, x24, x25, x26, x27, x28, x29, x30, x31] :=
  match xs, h with
  | [x0, x1, x2, x3, x4, x5, x6, x7, x8, x9, x10, x11, x12, x13, x14, x15, x16, x17, x18, x19, x20, x21, x22, x23, x24, x25, x26, x27, x28, x29, x30, x31], _ => ⟨x0, x1, x2, x3, x4, x5, x6, x7, x8, x9, x10, x11, x12, x13, x14, x15, x16, x17, x18, x19, x20, x21, x22, x23, x24, x25, x26, x27, x28, x29, x30, x31, rfl⟩
set_option maxRecDepth 100000 in
theorem built_packet (sum : List (BitVec 8)) (epoch frm number : Int) (A : Option Addr) (n c : Nat) (hs : sum.length = 32) :
    Try.prog.built 26 [(0, .agg (sum.map b8).toArray), (1, .int .i64 epoch), (2, .int .i64 frm), (3, .int .i64 number), (4, .slice A n c)] = some (packetC sum epoch frm number A n c).toArray := by
  obtain ⟨x0, x1, x2, x3, x4, x5, x6, x7, x8, x9, x10, x11, x12, x13, x14, x15, x16, x17, x18, x19, x20, x21, x22, x23, x24, x25, x26, x27, x28, x29, x30, x31, rfl⟩ := list32 hs
  kernel_rfl

/-- a value is built from parts -/
theorem wpList_build_at {P : Program} {ops : Array Oper} {rest : List Oper} {op : Oper} {a : Act} {w : World} {Q : Exit → Act → World → Prop} (hgd : op.guard = none) (t : TypeId) (parts : List (Nat × Operand)) (ho : op.op = .build t parts.toArray)
    (cells : Array Value) (vals : List (Nat × Value)) (hv : parts.map (fun x => (x.1, a.eval x.2)) = vals) (hb : P.built t vals = some cells) (h : wpList P ops Q rest (a.put op.dst (.agg cells)) w) : wpList P ops Q (op :: rest) a w := by
  refine wpList_plain hgd fun K hK => ?_
  have hr := run_build (P := P) w t vals.toArray cells hb
  rw [← hv, ← List.map_toArray] at hr
  unfold Oper.wp execOp
  simp only [ho]
  have e : (parts.toArray.map fun (i, x) => (i, a.eval x)) = parts.toArray.map (fun x => (x.1, a.eval x.2)) := rfl
  rw [e]
  simp only [Sem.run_bind, Sem.run_pure, Result.andThen_ok, hr, Oper.upon_value]
  exact hK _ _ h
/-- what bytes are read as -/
structure Parsed where
  sum : List (BitVec 8)
  epoch : Nat
  frm : Nat
  number : Nat
  text : List (BitVec 8)
  rest : List (BitVec 8)
  bad : Bool
def parsePk (bs : List (BitVec 8)) : Parsed :=
  let r1 := tkR 32 bs
  let r2 := tkR 4 r1
  let r3 := tkR 1 r2
  let r4 := tkR 4 r3
  let r5 := tkR 2 r4
  let l := beVal (tkO 2 r4)
  ⟨tkO 32 bs, beVal (tkO 4 r1), beVal (tkO 1 r2), beVal (tkO 4 r3), tkO l r5, tkR l r5, tkB l r5 (tkB 2 r4 (tkB 4 r3 (tkB 1 r2 (tkB 4 r1 (tkB 32 bs false)))))⟩
def goodPk (bs : List (BitVec 8)) : Bool := pkGood (parsePk bs).bad (parsePk bs).rest bs (parsePk bs).sum (parsePk bs).epoch (parsePk bs).frm (parsePk bs).number (parsePk bs).text

set_option maxRecDepth 100000 in
set_option maxHeartbeats 4000000 in
theorem takePacket_any {w : World} {B' : Nat} {A : Option Addr} {n c : Nat} {bs : List (BitVec 8)} (hr : Rd b8 w B' A bs) (hB' : B' ≤ w.heap.size) (hn : bs.length = n) (hnc : n ≤ c) (hy : n ≤ 1000000) :
    Calls Try.prog 16 #[.slice A n c] w fun e w' => Below w.heap.size w w' ∧
      ((goodPk bs = true ∧ ∃ A2 c2, e = .returned (.tuple #[.agg (packetC (parsePk bs).sum (parsePk bs).epoch (parsePk bs).frm (parsePk bs).number A2 (parsePk bs).text.length c2).toArray, .nilIface]) ∧ Own b8 w' w.heap.size 5 (.slice A2 (parsePk bs).text.length c2) (parsePk bs).text) ∨
       (goodPk bs = false ∧ e = .returned (.tuple #[.agg (packetC zero32 0 0 0 none 0 0).toArray, .iface 108 (.int .i64 3)]))) := by
  have HR := Lib.hid hr
  have HN := Lib.hid hn
  obtain ⟨S, hS⟩ : ∃ S, S = tkO 32 bs := ⟨_, rfl⟩
  obtain ⟨r1, hr1⟩ : ∃ r, r = tkR 32 bs := ⟨_, rfl⟩
  obtain ⟨d1, hd1⟩ : ∃ d, d = tkB 32 bs false := ⟨_, rfl⟩
  obtain ⟨E, hE⟩ : ∃ E, E = beVal (tkO 4 r1) := ⟨_, rfl⟩
  obtain ⟨r2, hr2⟩ : ∃ r, r = tkR 4 r1 := ⟨_, rfl⟩
  obtain ⟨d2, hd2⟩ : ∃ d, d = tkB 4 r1 d1 := ⟨_, rfl⟩
  obtain ⟨F, hF⟩ : ∃ F, F = beVal (tkO 1 r2) := ⟨_, rfl⟩
  obtain ⟨r3, hr3⟩ : ∃ r, r = tkR 1 r2 := ⟨_, rfl⟩
  obtain ⟨d3, hd3⟩ : ∃ d, d = tkB 1 r2 d2 := ⟨_, rfl⟩
  obtain ⟨N, hNN⟩ : ∃ N, N = beVal (tkO 4 r3) := ⟨_, rfl⟩
  obtain ⟨r4, hr4⟩ : ∃ r, r = tkR 4 r3 := ⟨_, rfl⟩
  obtain ⟨d4, hd4⟩ : ∃ d, d = tkB 4 r3 d3 := ⟨_, rfl⟩
  obtain ⟨T, hT⟩ : ∃ T, T = tkO (beVal (tkO 2 r4)) (tkR 2 r4) := ⟨_, rfl⟩
  obtain ⟨R, hRR⟩ : ∃ R, R = tkR (beVal (tkO 2 r4)) (tkR 2 r4) := ⟨_, rfl⟩
  obtain ⟨D, hD⟩ : ∃ D, D = tkB (beVal (tkO 2 r4)) (tkR 2 r4) (tkB 2 r4 d4) := ⟨_, rfl⟩
  have hpp : parsePk bs = ⟨S, E, F, N, T, R, D⟩ := by subst hD hRR hT hd4 hr4 hNN hd3 hr3 hF hd2 hr2 hE hd1 hr1 hS; rfl
  have hgg : goodPk bs = pkGood D R bs S E F N T := by unfold goodPk; rw [hpp]
  rw [hpp, hgg]
  obtain ⟨q, hq⟩ : ∃ q, q = pkGood D R bs S E F N T := ⟨_, rfl⟩
  rw [← hq]
  have HQ := Lib.hid hq
  have hSl : S.length = 32 := by rw [hS]; exact tkO_len _ _
  have hE4 : E < 4294967296 := by rw [hE]; exact beVal_lt 4 _ (tkO_len _ _)
  have hF1 : F < 256 := by rw [hF]; exact beVal_lt 1 _ (tkO_len _ _)
  have hN4 : N < 4294967296 := by rw [hNN]; exact beVal_lt 4 _ (tkO_len _ _)
  have hTl : T.length < 65536 := by rw [hT, tkO_len]; exact beVal_lt 2 _ (tkO_len _ _)
  have hl1 : r1.length ≤ bs.length := by rw [hr1]; exact tkR_le _ _
  have hl2 : r2.length ≤ r1.length := by rw [hr2]; exact tkR_le _ _
  have hl3 : r3.length ≤ r2.length := by rw [hr3]; exact tkR_le _ _
  have hl4 : r4.length ≤ r3.length := by rw [hr4]; exact tkR_le _ _
  have hb0 : bs.length ≤ 1000000 := by rw [hn]; exact hy
  have HC1 := Lib.hid (fun (W : World) (h : Eye W w.heap.size (w.heap.size + 1) bs false) => (show Calls Try.prog 59 #[.pointer (some ⟨w.heap.size + 1, 0, none⟩)] W fun e w' => e = .returned (.agg (S.map b8).toArray) ∧ Eye w' w.heap.size (w.heap.size + 1) r1 d1 ∧ W.grownBy w' (some (w.heap.size + 1)) by have := sumE_any h (by omega); rw [arrV_mk, ← hS, ← hr1, ← hd1] at this; exact this))
  have HC2 := Lib.hid (fun (W : World) (h : Eye W w.heap.size (w.heap.size + 1) r1 d1) => (show Calls Try.prog 60 #[.pointer (some ⟨w.heap.size + 1, 0, none⟩), .int .i64 4] W fun e w' => e = .returned (.int .i64 (E : Int)) ∧ Eye w' w.heap.size (w.heap.size + 1) r2 d2 ∧ W.grownBy w' (some (w.heap.size + 1)) by have := numE_any h 4 4 rfl (by omega) (by omega); rw [← hE, ← hr2, ← hd2] at this; exact this))
  have HC3 := Lib.hid (fun (W : World) (h : Eye W w.heap.size (w.heap.size + 1) r2 d2) => (show Calls Try.prog 60 #[.pointer (some ⟨w.heap.size + 1, 0, none⟩), .int .i64 1] W fun e w' => e = .returned (.int .i64 (F : Int)) ∧ Eye w' w.heap.size (w.heap.size + 1) r3 d3 ∧ W.grownBy w' (some (w.heap.size + 1)) by have := numE_any h 1 1 rfl (by omega) (by omega); rw [← hF, ← hr3, ← hd3] at this; exact this))
  have HC4 := Lib.hid (fun (W : World) (h : Eye W w.heap.size (w.heap.size + 1) r3 d3) => (show Calls Try.prog 60 #[.pointer (some ⟨w.heap.size + 1, 0, none⟩), .int .i64 4] W fun e w' => e = .returned (.int .i64 (N : Int)) ∧ Eye w' w.heap.size (w.heap.size + 1) r4 d4 ∧ W.grownBy w' (some (w.heap.size + 1)) by have := numE_any h 4 4 rfl (by omega) (by omega); rw [← hNN, ← hr4, ← hd4] at this; exact this))
  have HC5 := Lib.hid (fun (W : World) (h : Eye W w.heap.size (w.heap.size + 1) r4 d4) => (show Calls Try.prog 61 #[.pointer (some ⟨w.heap.size + 1, 0, none⟩)] W fun e w' => ∃ v, e = .returned v ∧ Own b8 w' W.heap.size 5 v T ∧ Eye w' w.heap.size (w.heap.size + 1) R D ∧ W.grownBy w' (some (w.heap.size + 1)) by have := rowE_any h (by omega); rw [← hT, ← hRR, ← hD] at this; exact this))
  have HBu := Lib.hid (fun A n c => built_packet S E F N A n c hSl)
  have HSl := Lib.hid hSl
  clear hS hr1 hd1 hE hr2 hd2 hF hr3 hd3 hNN hr4 hd4 hT hRR hD hpp hgg hq hSl hl1 hl2 hl3 hl4 hb0
  have HF := Lib.hid (show ∀ W1, (w.alloc (.cells (packetC zero32 0 0 0 none 0 0).toArray 26)).alloc (.cells #[.slice A n c, .bool false] 121) = W1 →
      PkBox W1 w.heap.size zero32 0 0 0 none 0 0 ∧ Eye W1 w.heap.size (w.heap.size + 1) bs false ∧ Below w.heap.size w W1 ∧ W1.heap.size = w.heap.size + 2 by
    rintro W1 rfl
    have hb : Below w.heap.size w ((w.alloc (.cells (packetC zero32 0 0 0 none 0 0).toArray 26)).alloc (.cells #[.slice A n c, .bool false] 121)) := ((Below.refl _ _).alloc (Nat.le_refl _) _).alloc (by simp) _
    refine ⟨Blk.alloc (Blk.new w _ _) _, ⟨⟨A, c, ?_, (HR.out.below (hb.mono hB')).more hB', by rw [HN.out]; exact hnc⟩, by omega⟩, hb, by simp⟩
    rw [HN.out]
    exact Blk.at_size _ [.slice A n c, .bool false] (by simp))
  clear hr hn
  go_enter Try.func16, Try.ntmps16
  go_wp2_with fail
  generalize hW1 : World.alloc (World.alloc w _) _ = W1
  obtain ⟨hp1, he1, hb1, hz1⟩ := HF.out W1 hW1
  clear hW1 HF
  have HP1 := Lib.hid hp1
  have HE1 := Lib.hid he1
  have HB1 := Lib.hid hb1
  clear hp1 he1 hb1
  have H1p := HP1
  have H1b := HB1
  refine (HC1.out _ HE1.out).mono ?_
  rintro e w2 ⟨rfl, he2, hg2⟩
  have hz2 : W1.heap.size ≤ w2.heap.size := hg2.size
  have HE2 := Lib.hid he2
  have HP2 := Lib.hid (show PkBox w2 w.heap.size zero32 0 0 0 none 0 0 from Blk.grown H1p.out hg2 (by intro e; have := Option.some.inj e; omega))
  have HB2 := Lib.hid (H1b.out.trans (below_grown hg2 (by omega) (by omega)) : Below w.heap.size w w2)
  clear he2 hg2
  go_wp2_with fail
  have H2p := HP2
  have H2b := HB2
  refine (HC2.out _ HE2.out).mono ?_
  rintro e w3 ⟨rfl, he3, hg3⟩
  have hz3 : w2.heap.size ≤ w3.heap.size := hg3.size
  have HE3 := Lib.hid he3
  have HP3 := Lib.hid (show PkBox w3 w.heap.size zero32 0 0 0 none 0 0 from Blk.grown H2p.out hg3 (by intro e; have := Option.some.inj e; omega))
  have HB3 := Lib.hid (H2b.out.trans (below_grown hg3 (by omega) (by omega)) : Below w.heap.size w w3)
  clear he3 hg3
  go_wp2_with fail
  have H3p := HP3
  have H3b := HB3
  refine (HC3.out _ HE3.out).mono ?_
  rintro e w4 ⟨rfl, he4, hg4⟩
  have hz4 : w3.heap.size ≤ w4.heap.size := hg4.size
  have HE4 := Lib.hid he4
  have HP4 := Lib.hid (show PkBox w4 w.heap.size zero32 0 0 0 none 0 0 from Blk.grown H3p.out hg4 (by intro e; have := Option.some.inj e; omega))
  have HB4 := Lib.hid (H3b.out.trans (below_grown hg4 (by omega) (by omega)) : Below w.heap.size w w4)
  clear he4 hg4
  go_wp2_with fail
  have H4p := HP4
  have H4b := HB4
  refine (HC4.out _ HE4.out).mono ?_
  rintro e w5 ⟨rfl, he5, hg5⟩
  have hz5 : w4.heap.size ≤ w5.heap.size := hg5.size
  have HE5 := Lib.hid he5
  have HP5 := Lib.hid (show PkBox w5 w.heap.size zero32 0 0 0 none 0 0 from Blk.grown H4p.out hg5 (by intro e; have := Option.some.inj e; omega))
  have HB5 := Lib.hid (H4b.out.trans (below_grown hg5 (by omega) (by omega)) : Below w.heap.size w w5)
  clear he5 hg5
  go_wp2_with fail
  refine (HC5.out _ HE5.out).mono ?_
  rintro e w6 ⟨v6, rfl, ho6, he6, hg6⟩
  obtain ⟨A6, c6, rfl, hr6, -, hc6, -⟩ := ho6.shape' (n := T.length) rfl
  have hz6 : w5.heap.size ≤ w6.heap.size := hg6.size
  have HE6 := Lib.hid he6
  have HO6 := Lib.hid ho6
  have HP6 := Lib.hid (show PkBox w6 w.heap.size zero32 0 0 0 none 0 0 from Blk.grown HP5.out hg6 (by intro e; have := Option.some.inj e; omega))
  have HB6 := Lib.hid (HB5.out.trans (below_grown hg6 (by omega) (by omega)) : Below w.heap.size w w6)
  clear ho6 he6 hg6 hr6 HE1 HE2 HE3 HE4 HE5 HP1 HP2 HP3 HP4 HP5 HB1 HB2 HB3 HB4 HB5 H1p H1b H2p H2b H3p H3b H4p H4b HC1 HC2 HC3 HC4 HC5
  have HZ6 := Lib.hid (show Blk (w6.alloc (.cells (packetC zero32 0 0 0 none 0 0).toArray 26)) w6.heap.size 26 (packetC zero32 0 0 0 none 0 0) from Blk.new w6 _ _)
  have HPl := Lib.hid (packetC_len S E F N A6 T.length c6 HSl.out)
  have HP6a := Lib.hid (show PkBox (w6.alloc (.cells (packetC zero32 0 0 0 none 0 0).toArray 26)) w.heap.size zero32 0 0 0 none 0 0 from Blk.alloc HP6.out _)
  have HB6a := Lib.hid (HB6.out.alloc HB6.out.size (.cells (packetC zero32 0 0 0 none 0 0).toArray 26))
  have HE6a := Lib.hid (HE6.out.below ((Below.refl w6.heap.size w6).alloc (Nat.le_refl _) (.cells (packetC zero32 0 0 0 none 0 0).toArray 26)) (Nat.le_refl _))
  have HO6a := Lib.hid (HO6.out.alloc (.cells (packetC zero32 0 0 0 none 0 0).toArray 26))
  have hl6 : w.heap.size + 2 ≤ w6.heap.size := by omega
  have hne : (Value.slice A6 T.length c6).ownBlock ≠ some w6.heap.size := fun e => by have := (HO6.out.lt _ e).2; omega
  clear HP6 HB6 HE6 HO6
  go_wp2_with (first
    | (refine wpList_build_at rfl 26 [(0, .tmp 10), (1, .tmp 12), (2, .tmp 14), (3, .tmp 16), (4, .tmp 18)] rfl _ _ rfl (HBu.out A6 T.length c6) ?_)
    | (refine wpList_store_blk rfl 26 _ _ rfl w6.heap.size rfl (packetC S E F N A6 T.length c6) rfl _ _ HZ6.out (by rw [packetC_len _ _ _ _ _ _ _ zero32_len, HPl.out]) (by rw [HPl.out]; exact infoPacket) (packetC_one _ _ _ _ _ _ _) ?_; intro w7 hp7 hg7; have HP7 := Lib.hid hp7; have HG7 := Lib.hid hg7; clear hp7 hg7)
    | (refine wpList_load_mid rfl 26 (.tmp 5) rfl w6.heap.size 0 rfl (packetC S E F N A6 T.length c6) _ (Blk.whole HP7.out) Try.underlying26 rfl (by rw [HPl.out]; exact infoPacket) ?_))
  have hz7 : w6.heap.size + 1 ≤ w7.heap.size := by have := HG7.out.size; simpa using this
  have HE7 := Lib.hid (eye_grown HE6a.out HG7.out (by omega) (by omega))
  have HB7 := Lib.hid (HB6a.out.grown HG7.out (by simp; omega) (fun k e => by cases e; omega))
  have HP7b := Lib.hid (show PkBox w7 w.heap.size zero32 0 0 0 none 0 0 from Blk.grown HP6a.out HG7.out (by intro e; have := Option.some.inj e; omega))
  have HO7 := Lib.hid (HO6a.out.kept HG7.out (.inr hne))
  have hck := checkPk_any HE7.out (c0 := c) (HR.out.below (HB7.out.mono hB')) (by omega) HN.out hy S E F N A6 T.length c6 w7.heap.size T HSl.out (by omega) (by omega) (by omega) (by omega) (by omega) (by omega) HO7.out.rd (Nat.le_refl _) rfl (by omega)
  rw [← HQ.out] at hck
  have HCk := Lib.hid hck
  clear hck HZ6 HP6a HB6a HE6a HO6a HP7 HG7 HE7
  have hz7' : w.heap.size + 3 ≤ w7.heap.size := by omega
  cases q with
  | true =>
    rw [if_pos rfl] at HCk
    refine HCk.out.mono ?_
    rintro e w8 ⟨rfl, hb8⟩
    have HP8 := Lib.hid (HP7b.out.below hb8 (by omega))
    have HB8 := Lib.hid (HB7.out.trans (hb8.mono (by omega)))
    have HO8 := Lib.hid (HO7.out.below hb8 (Nat.le_refl _))
    have hne8 : (Value.slice A6 T.length c6).ownBlock ≠ some w.heap.size := fun e => by have := (HO8.out.lt _ e).1; omega
    have hz8 : w7.heap.size ≤ w8.heap.size := hb8.size
    clear hb8
    go_wp2_with (refine wpList_store_blk rfl 26 _ _ rfl w.heap.size rfl (packetC S E F N A6 T.length c6) rfl _ _ HP8.out (by rw [packetC_len _ _ _ _ _ _ _ zero32_len, HPl.out]) (by rw [HPl.out]; exact infoPacket) (packetC_one _ _ _ _ _ _ _) ?_; intro w9 hp9 hg9; have HP9 := Lib.hid hp9; have HG9 := Lib.hid hg9; clear hp9 hg9)
    refine bodyPost_ret (v := .tuple #[.agg (packetC S E F N A6 T.length c6).toArray, .nilIface]) (results_blk_tmp (g := w.heap.size) rfl _ _ _ _ _ _ rfl rfl HP9.out Try.underlying26 rfl (by rw [HPl.out]; exact infoPacket)) rfl ?_
    exact ⟨HB8.out.grown HG9.out (by omega) (fun k e => by cases e; omega), ⟨A6, c6, rfl, (HO8.out.kept HG9.out (.inr hne8)).less (by omega)⟩⟩
  | false =>
    rw [if_neg (by simp)] at HCk
    refine HCk.out.mono ?_
    rintro e w8 ⟨rfl, hb8⟩
    have HP8 := Lib.hid (HP7b.out.below hb8 (by omega))
    have HB8 := Lib.hid (HB7.out.trans (hb8.mono (by omega)))
    have HO8 := Lib.hid (HO7.out.below hb8 (Nat.le_refl _))
    have hne8 : (Value.slice A6 T.length c6).ownBlock ≠ some w.heap.size := fun e => by have := (HO8.out.lt _ e).1; omega
    have hz8 : w7.heap.size ≤ w8.heap.size := hb8.size
    clear hb8
    go_wp2_with (refine wpList_store_blk rfl 26 _ _ rfl w.heap.size rfl (packetC zero32 0 0 0 none 0 0) rfl _ _ HP8.out rfl (by rw [packetC_len _ _ _ _ _ _ _ zero32_len]; exact infoPacket) (packetC_one _ _ _ _ _ _ _) ?_; intro w9 hp9 hg9; have HP9 := Lib.hid hp9; have HG9 := Lib.hid hg9; clear hp9 hg9)
    refine bodyPost_ret (v := .tuple #[.agg (packetC zero32 0 0 0 none 0 0).toArray, .iface 108 (.int .i64 3)]) (results_blk_tmp (g := w.heap.size) rfl _ _ _ _ _ _ rfl rfl HP9.out Try.underlying26 rfl (by rw [packetC_len _ _ _ _ _ _ _ zero32_len]; exact infoPacket)) rfl ?_
    exact ⟨HB8.out.grown HG9.out (by omega) (fun k e => by cases e; omega), rfl⟩
end Go.Proofs.Ytloglpamnalmeaa
