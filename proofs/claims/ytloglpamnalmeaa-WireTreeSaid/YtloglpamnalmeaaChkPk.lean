/- CONTRACT: wire.check for packets. -/
import Derived.Test.YtloglpamnalmeaaChk
import Derived.Test.YtloglpamnalmeaaPacket
namespace Go.Proofs.Ytloglpamnalmeaa
open Go.RowKit
set_option linter.unusedVariables false
set_option linter.unusedSimpArgs false

def zero32 : List (BitVec 8) := List.replicate 32 0#8
theorem zero32_len : zero32.length = 32 := by simp [zero32]
theorem packetC_len (sum : List (BitVec 8)) (epoch frm number : Int) (A : Option Addr) (n c : Nat) (hs : sum.length = 32) : (packetC sum epoch frm number A n c).length = 36 := by simp [packetC, hs]
theorem packetC_one (sum : List (BitVec 8)) (epoch frm number : Int) (A : Option Addr) (n c : Nat) : ∀ u ∈ packetC sum epoch frm number A n c, u.oneCell' = true := by
  intro u hu
  simp only [packetC, List.mem_append, List.mem_map, List.mem_cons, List.not_mem_nil, or_false] at hu
  rcases hu with ⟨x, -, rfl⟩ | rfl | rfl | rfl | rfl <;> rfl
theorem infoPacket : (Try.prog.info? 26).map (·.size) = some 36 := by kernel_rfl
/-- is what was read written to just these bytes? -/
def pkGood (bad : Bool) (rest : List (BitVec 8)) (bs : List (BitVec 8)) (sum : List (BitVec 8)) (epoch frm number : Int) (text : List (BitVec 8)) : Bool := !bad && rest.isEmpty && !pkBad epoch frm number text.length && (bs == pkBytes sum epoch frm number text)

set_option maxRecDepth 100000 in
set_option maxHeartbeats 4000000 in
theorem checkPk_any {w : World} {B g : Nat} {rest : List (BitVec 8)} {bad : Bool} (hE : Eye w B g rest bad) {A0 : Option Addr} {n0 c0 B0 : Nat} {bs : List (BitVec 8)} (hb : Rd b8 w B0 A0 bs) (hB0 : B0 ≤ w.heap.size) (hn0 : bs.length = n0) (hy0 : n0 ≤ 1000000)
    (sum : List (BitVec 8)) (epoch frm number : Int) (A : Option Addr) (n c B' : Nat) (text : List (BitVec 8)) (hs : sum.length = 32) (e1 : -9223372036854775808 ≤ epoch) (e2 : epoch < 9223372036854775808) (f1 : -9223372036854775808 ≤ frm) (f2 : frm < 9223372036854775808) (n1 : -9223372036854775808 ≤ number) (n2 : number < 9223372036854775808)
    (hr : Rd b8 w B' A text) (hB' : B' ≤ w.heap.size) (hn : text.length = n) (hy : n ≤ 1000000) :
    Calls Try.prog 62 #[.pointer (some ⟨g, 0, none⟩), .slice A0 n0 c0, .agg (packetC sum epoch frm number A n c).toArray, .func (.func 13) #[] #[]] w fun e w' =>
      e = .returned (if pkGood bad rest bs sum epoch frm number text then .tuple #[.agg (packetC sum epoch frm number A n c).toArray, .nilIface] else .tuple #[.agg (packetC zero32 0 0 0 none 0 0).toArray, .iface 108 (.int .i64 3)]) ∧ Below w.heap.size w w' := by
  have HS := Lib.hid hs
  have HR := Lib.hid hr
  have HN := Lib.hid hn
  have HBs := Lib.hid hb
  have HN0 := Lib.hid hn0
  have hgl := hE.lt
  have hgl1 : g < w.heap.size + 1 := by omega
  have hgl2 : g < w.heap.size + 1 + 1 := by omega
  obtain ⟨⟨Ae, ce, he, hre, hce⟩, hle⟩ := hE
  have ce0 := he.cell 0 rfl
  have ce1 := he.cell 1 rfl
  have HF := Lib.hid (show ∀ W3, ((w.alloc (.cells (packetC sum epoch frm number A n c).toArray 26)).alloc (.cells (packetC zero32 0 0 0 none 0 0).toArray 26)).alloc (.cells (packetC zero32 0 0 0 none 0 0).toArray 26) = W3 →
      PkBox W3 w.heap.size sum epoch frm number A n c ∧ PkBox W3 (w.heap.size + 1) zero32 0 0 0 none 0 0 ∧ PkBox W3 (w.heap.size + 1 + 1) zero32 0 0 0 none 0 0 ∧ Below w.heap.size w W3 ∧ W3.heap.size = w.heap.size + 3 by
    rintro W3 rfl
    refine ⟨Blk.alloc (Blk.alloc (Blk.new w _ _) _) _, Blk.alloc (Blk.at_size _ _ (by simp)) _, Blk.at_size _ _ (by simp), (((Below.refl _ _).alloc (Nat.le_refl _) _).alloc (by simp) _).alloc (by simp; omega) _, by simp⟩)
  obtain ⟨q, hq⟩ : ∃ q, q = pkGood bad rest bs sum epoch frm number text := ⟨_, rfl⟩
  rw [← hq]
  have HQ := Lib.hid hq
  clear he hre hs hr hn hb hn0 hq
  cases bad with
  | true =>
    have hq0 : q = false := by rw [HQ.out]; unfold pkGood; simp
    subst hq0
    go_enter Try.func62, Try.ntmps62
    go_wp2_with (first
      | (generalize hW3 : World.alloc (World.alloc (World.alloc w _) _) _ = W3; have hf3 := HF.out W3 hW3; clear hW3; obtain ⟨hp3, hz3, hn3, hb3, hs3⟩ := hf3; have HZ3 := Lib.hid hz3; have HN3 := Lib.hid hn3; have HB3 := Lib.hid hb3; clear hp3 hz3 hn3 hb3; refine wpList_load_mid rfl 26 (.tmp 10) rfl (w.heap.size + 1 + 1) 0 rfl (packetC zero32 0 0 0 none 0 0) _ (Blk.whole HN3.out) Try.underlying26 rfl (by rw [packetC_len _ _ _ _ _ _ _ zero32_len]; exact infoPacket) ?_)
      | (refine wpList_store_blk rfl 26 _ _ rfl (w.heap.size + 1) rfl (packetC zero32 0 0 0 none 0 0) rfl _ _ HZ3.out rfl (by rw [packetC_len _ _ _ _ _ _ _ zero32_len]; exact infoPacket) (packetC_one _ _ _ _ _ _ _) ?_; intro w4 hp4 hg4; have HP4 := Lib.hid hp4; have HG4 := Lib.hid hg4; clear hp4 hg4))
    refine bodyPost_ret (v := .tuple #[.agg (packetC zero32 0 0 0 none 0 0).toArray, .iface 108 (.int .i64 3)]) (results_blk_tmp (g := w.heap.size + 1) rfl _ _ _ _ _ _ rfl rfl HP4.out Try.underlying26 rfl (by rw [packetC_len _ _ _ _ _ _ _ zero32_len]; exact infoPacket)) rfl ?_
    exact ⟨rfl, HB3.out.grown HG4.out (by omega) (fun k e => by cases e; omega)⟩
  | false =>
    by_cases hrest : rest = []
    · subst hrest
      obtain ⟨r, hr⟩ : ∃ r, r = pkBad epoch frm number n := ⟨_, rfl⟩
      have hput := fun W3 (hb : Below w.heap.size w W3) => putPacket_any sum epoch frm number A n c w.heap.size text W3 HS.out e1 e2 f1 f2 n1 n2 ((HR.out.below (hb.mono hB')).more hB') hb.size HN.out hy
      simp only [← hr] at hput
      have HPut := Lib.hid hput
      have HRb := Lib.hid hr
      clear hput hr
      go_enter Try.func62, Try.ntmps62
      go_wp2_with (generalize hW3 : World.alloc (World.alloc (World.alloc w _) _) _ = W3; have hf3 := HF.out W3 hW3; clear hW3; obtain ⟨hp3, hz3, hn3, hb3, hs3⟩ := hf3; have HP3 := Lib.hid hp3; have HZ3 := Lib.hid hz3; have HN3 := Lib.hid hn3; have HB3 := Lib.hid hb3; clear hp3 hz3 hn3 hb3; refine wpList_load_mid rfl 26 (.tmp 6) rfl w.heap.size 0 rfl (packetC sum epoch frm number A n c) _ (Blk.whole HP3.out) Try.underlying26 rfl (by rw [packetC_len _ _ _ _ _ _ _ HS.out]; exact infoPacket) ?_)
      refine (HPut.out W3 HB3.out).mono ?_
      rintro e w4 ⟨v4, rfl, ho4, hb4⟩
      have HZ4 := Lib.hid (HZ3.out.below hb4 (by omega))
      have HN4 := Lib.hid (HN3.out.below hb4 (by omega))
      have HP4 := Lib.hid (HP3.out.below hb4 (by omega))
      have HB4 := Lib.hid (HB3.out.trans (hb4.mono (by omega)))
      have hz4 : W3.heap.size ≤ w4.heap.size := hb4.size
      cases r with
      | true =>
        have hq0 : q = false := by rw [HQ.out]; unfold pkGood; rw [HN.out, ← HRb.out]; simp
        subst hq0
        rw [if_pos rfl, errV_pos (by simp)]
        clear ho4 hb4
        go_wp2_with (first
          | (refine wpList_load_mid rfl 26 (.tmp 10) rfl (w.heap.size + 1 + 1) 0 rfl (packetC zero32 0 0 0 none 0 0) _ (Blk.whole HN4.out) Try.underlying26 rfl (by rw [packetC_len _ _ _ _ _ _ _ zero32_len]; exact infoPacket) ?_)
          | (refine wpList_store_blk rfl 26 _ _ rfl (w.heap.size + 1) rfl (packetC zero32 0 0 0 none 0 0) rfl _ _ HZ4.out rfl (by rw [packetC_len _ _ _ _ _ _ _ zero32_len]; exact infoPacket) (packetC_one _ _ _ _ _ _ _) ?_; intro w6 hp6 hg6; have HP6 := Lib.hid hp6; have HG6 := Lib.hid hg6; clear hp6 hg6))
        refine bodyPost_ret (v := .tuple #[.agg (packetC zero32 0 0 0 none 0 0).toArray, .iface 108 (.int .i64 3)]) (results_blk_tmp (g := w.heap.size + 1) rfl _ _ _ _ _ _ rfl rfl HP6.out Try.underlying26 rfl (by rw [packetC_len _ _ _ _ _ _ _ zero32_len]; exact infoPacket)) rfl ?_
        exact ⟨rfl, HB4.out.grown HG6.out (by omega) (fun k e => by cases e; omega)⟩
      | false =>
        rw [if_neg (by simp)] at ho4
        rw [if_neg (by simp), errV_zero]
        obtain ⟨A4, c4, rfl, hr4, -, -, -⟩ := ho4.shape
        have HR4 := Lib.hid hr4
        clear ho4 hb4 hr4
        go_wp2_with fail
        have heq := equal_any (B1 := B0) (B2 := w4.heap.size) (c1 := c0) (c2 := c4) (HBs.out.below (HB4.out.mono hB0)) HR4.out HN0.out rfl (by omega) (Nat.le_refl _) (by omega)
        obtain ⟨y, hy'⟩ : ∃ y, y = (bs == pkBytes sum epoch frm number text) := ⟨_, rfl⟩
        rw [← hy'] at heq
        have HEq := Lib.hid heq
        have HYy := Lib.hid hy'
        clear heq hy'
        refine HEq.out.mono ?_
        rintro e w5 ⟨rfl, hb5⟩
        have hz5 : w4.heap.size ≤ w5.heap.size := hb5.size
        have HZ4 := Lib.hid (HZ4.out.below hb5 (by omega))
        have HN4 := Lib.hid (HN4.out.below hb5 (by omega))
        have HP4 := Lib.hid (HP4.out.below hb5 (by omega))
        have HB4 := Lib.hid (HB4.out.trans (hb5.mono (by omega)))
        clear hb5
        cases y with
        | false =>
          have hq0 : q = false := by rw [HQ.out]; unfold pkGood; rw [← HYy.out]; simp
          subst hq0
          go_wp2_with (first
            | (refine wpList_load_mid rfl 26 (.tmp 10) rfl (w.heap.size + 1 + 1) 0 rfl (packetC zero32 0 0 0 none 0 0) _ (Blk.whole HN4.out) Try.underlying26 rfl (by rw [packetC_len _ _ _ _ _ _ _ zero32_len]; exact infoPacket) ?_)
            | (refine wpList_store_blk rfl 26 _ _ rfl (w.heap.size + 1) rfl (packetC zero32 0 0 0 none 0 0) rfl _ _ HZ4.out rfl (by rw [packetC_len _ _ _ _ _ _ _ zero32_len]; exact infoPacket) (packetC_one _ _ _ _ _ _ _) ?_; intro w6 hp6 hg6; have HP6 := Lib.hid hp6; have HG6 := Lib.hid hg6; clear hp6 hg6))
          refine bodyPost_ret (v := .tuple #[.agg (packetC zero32 0 0 0 none 0 0).toArray, .iface 108 (.int .i64 3)]) (results_blk_tmp (g := w.heap.size + 1) rfl _ _ _ _ _ _ rfl rfl HP6.out Try.underlying26 rfl (by rw [packetC_len _ _ _ _ _ _ _ zero32_len]; exact infoPacket)) rfl ?_
          exact ⟨rfl, HB4.out.grown HG6.out (by omega) (fun k e => by cases e; omega)⟩
        | true =>
          have hq0 : q = true := by rw [HQ.out]; unfold pkGood; rw [← HYy.out, HN.out, ← HRb.out]; rfl
          subst hq0
          go_wp2_with (first
            | (refine wpList_load_mid rfl 26 (.tmp 6) rfl w.heap.size 0 rfl (packetC sum epoch frm number A n c) _ (Blk.whole HP4.out) Try.underlying26 rfl (by rw [packetC_len _ _ _ _ _ _ _ HS.out]; exact infoPacket) ?_)
            | (refine wpList_store_blk rfl 26 _ _ rfl (w.heap.size + 1) rfl (packetC sum epoch frm number A n c) rfl _ _ HZ4.out (by rw [packetC_len _ _ _ _ _ _ _ zero32_len, packetC_len _ _ _ _ _ _ _ HS.out]) (by rw [packetC_len _ _ _ _ _ _ _ HS.out]; exact infoPacket) (packetC_one _ _ _ _ _ _ _) ?_; intro w6 hp6 hg6; have HP6 := Lib.hid hp6; have HG6 := Lib.hid hg6; clear hp6 hg6))
          refine bodyPost_ret (v := .tuple #[.agg (packetC sum epoch frm number A n c).toArray, .nilIface]) (results_blk_tmp (g := w.heap.size + 1) rfl _ _ _ _ _ _ rfl rfl HP6.out Try.underlying26 rfl (by rw [packetC_len _ _ _ _ _ _ _ HS.out]; exact infoPacket)) rfl ?_
          exact ⟨rfl, HB4.out.grown HG6.out (by omega) (fun k e => by cases e; omega)⟩
    · have hl : (0 : Int) < (rest.length : Int) := by have := List.length_pos_iff.2 hrest; omega
      have hq0 : q = false := by rw [HQ.out]; unfold pkGood; cases rest with
        | nil => exact absurd rfl hrest
        | cons x xs => simp
      subst hq0
      clear hrest
      go_enter Try.func62, Try.ntmps62
      go_wp2_with (first
        | (generalize hW3 : World.alloc (World.alloc (World.alloc w _) _) _ = W3; have hf3 := HF.out W3 hW3; clear hW3; obtain ⟨hp3, hz3, hn3, hb3, hs3⟩ := hf3; have HZ3 := Lib.hid hz3; have HN3 := Lib.hid hn3; have HB3 := Lib.hid hb3; clear hp3 hz3 hn3 hb3; refine wpList_load_mid rfl 26 (.tmp 10) rfl (w.heap.size + 1 + 1) 0 rfl (packetC zero32 0 0 0 none 0 0) _ (Blk.whole HN3.out) Try.underlying26 rfl (by rw [packetC_len _ _ _ _ _ _ _ zero32_len]; exact infoPacket) ?_)
        | (refine wpList_store_blk rfl 26 _ _ rfl (w.heap.size + 1) rfl (packetC zero32 0 0 0 none 0 0) rfl _ _ HZ3.out rfl (by rw [packetC_len _ _ _ _ _ _ _ zero32_len]; exact infoPacket) (packetC_one _ _ _ _ _ _ _) ?_; intro w4 hp4 hg4; have HP4 := Lib.hid hp4; have HG4 := Lib.hid hg4; clear hp4 hg4))
      refine bodyPost_ret (v := .tuple #[.agg (packetC zero32 0 0 0 none 0 0).toArray, .iface 108 (.int .i64 3)]) (results_blk_tmp (g := w.heap.size + 1) rfl _ _ _ _ _ _ rfl rfl HP4.out Try.underlying26 rfl (by rw [packetC_len _ _ _ _ _ _ _ zero32_len]; exact infoPacket)) rfl ?_
      exact ⟨rfl, HB3.out.grown HG4.out (by omega) (fun k e => by cases e; omega)⟩
end Go.Proofs.Ytloglpamnalmeaa
