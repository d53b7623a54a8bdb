/- CONTRACT: burrowlaw09.short. -/
import Derived.Test.YtloglpamnalmeaaWireComm
import Derived.Test.YtloglpamnalmeaaShortLaw
namespace Go.Proofs.Ytloglpamnalmeaa
open Go.RowKit
set_option linter.unusedVariables false
set_option linter.unusedSimpArgs false

theorem sliced_zeroS (a : Option Addr) (h m s : Nat) : sliced a 0 h m s = .slice a h m := by
  unfold sliced
  rw [Nat.zero_mul, Nat.sub_zero, Nat.sub_zero]
  cases a <;> simp [Addr.add]
attribute [local go_sem high] sliced_zeroS
theorem umod_lt (at' : Int) {L : Nat} (h : 0 < L) (hl : L ≤ 100000) : ∃ K : Nat, wrap64 ((IntKind.u64.wrap at').tmod (L : Int)) = (K : Int) ∧ K < L := by
  have hU : 0 ≤ IntKind.u64.wrap at' := by rw [ofint_u64]; unfold bv; omega
  rw [Int.tmod_eq_emod_of_nonneg hU]
  have h0 := Int.emod_nonneg (IntKind.u64.wrap at') (b := (L : Int)) (by omega)
  have h1 := Int.emod_lt_of_pos (IntKind.u64.wrap at') (b := (L : Int)) (by omega)
  refine ⟨(IntKind.u64.wrap at' % (L : Int)).toNat, ?_, by omega⟩
  rw [IntWalk.wrap64_in _ (by omega)]; omega
theorem RdC0.below {w w' : World} {B C : Nat} {x : CommT} (h : RdC0 w B x) (hb : Below C w w') (hBC : B ≤ C) : RdC0 w' B x :=
  ⟨h.len, h.ep, h.frm, h.row.below (hb.mono hBC), fun t ht => ⟨(h.el t ht).ok, (h.el t ht).um.below (hb.mono hBC)⟩, h.plen, h.um.below (hb.mono hBC), h.steps.below (hb.mono hBC), h.slen⟩
theorem pk_cuts {sum : List (BitVec 8)} {epoch frm number : Int} {m : Nat} {text : List (BitVec 8)} (hs : sum.length = 32) (hm : text.length = m) (hmx : m ≤ 1000) (more : BitVec 8) (h : false = pkBad epoch frm number m) :
    ∃ L, L = 43 + m ∧ 0 < L ∧ L ≤ 2000 ∧ (pkBytes sum epoch frm number text).length = L ∧ (∀ k, k < L → goodPk ((pkBytes sum epoch frm number text).take k) = false) ∧ goodPk (pkBytes sum epoch frm number text ++ [more]) = false := by
  obtain ⟨E, rfl, hE4⟩ : ∃ E : Nat, epoch = (E : Int) ∧ (E : Int) ≤ 4294967295 := outOf_nat (by unfold pkBad at h; revert h; cases outOf epoch 4294967295 <;> simp)
  obtain ⟨F, rfl, hF1⟩ : ∃ F : Nat, frm = (F : Int) ∧ (F : Int) ≤ 31 := outOf_nat (by unfold pkBad at h; revert h; cases outOf frm 31 <;> simp)
  obtain ⟨N, rfl, hN4⟩ : ∃ N : Nat, number = (N : Int) ∧ (N : Int) ≤ 4294967295 := outOf_nat (by unfold pkBad at h; revert h; cases outOf number 4294967295 <;> simp)
  have hl : (pkBytes sum E F N text).length = 43 + m := by rw [pkBytes_len _ _ _ _ _ hs, hm]
  refine ⟨43 + m, rfl, by omega, by omega, hl, fun k hk => goodPk_less hs (by omega) (by omega) (by omega) (by omega) (by rw [hl]; exact hk), goodPk_more hs (by omega) (by omega) (by omega) (by omega) (by simp)⟩
theorem is33 (w : World) : Calls Try.prog 48 #[.iface 108 (.int .i64 3), .int .i64 3] w fun e w' => e = .returned (.bool true) ∧ w = w' := by
  have h := is_any 3 3 w
  rw [errV_pos (by simp)] at h
  exact h
set_option maxRecDepth 100000 in
set_option maxHeartbeats 1000000 in
theorem short_any {w : World} {B : Nat} (x : CommT) (hr : RdC0 w B x) (hB : B ≤ w.heap.size) (sum : List (BitVec 8)) (epoch frm number : Int) (A : Option Addr) (m c : Nat) (text : List (BitVec 8)) (hs : sum.length = 32) (we : (Lit.int .i64 epoch).wf = true) (wf : (Lit.int .i64 frm).wf = true) (wn : (Lit.int .i64 number).wf = true)
    (ht : Rd b8 w B A text) (hm : text.length = m) (hmc : m ≤ c) (hc : c ≤ maxLen) (at' : Int) (more : BitVec 8) :
    Calls Try.prog 39 #[.agg (commC x).toArray, .agg (packetC sum epoch frm number A m c).toArray, .int .i64 at', .int .u8 (bv more)] w fun e w' => e = .returned (.bool true) ∧ Below w.heap.size w w' := by
  obtain ⟨i0, hi0, hsz1, hq1, hq2⟩ := info_parts infoU8
  have be' := bounds_i64 we
  have bf' := bounds_i64 wf
  have bn' := bounds_i64 wn
  have HX := Lib.hid hr.len
  have HS := Lib.hid hs
  have HM := Lib.hid hm
  have HXl := Lib.hid (commC_len hr.len)
  have HPl := Lib.hid (packetC_len sum epoch frm number A m c hs)
  have HF := Lib.hid (show ∀ W0, (w.alloc (.cells (commC x).toArray 82)).alloc (.cells (packetC sum epoch frm number A m c).toArray 26) = W0 →
      W0.heap.size = w.heap.size + 2 ∧ ∀ W, Below (w.heap.size + 2) W0 W → Blk W w.heap.size 82 (commC x) ∧ PkBox W (w.heap.size + 1) sum epoch frm number A m c ∧ Below w.heap.size w W ∧ w.heap.size + 2 ≤ W.heap.size ∧ RdC0 W B x ∧ Rd b8 W B A text by
    rintro W0 rfl
    refine ⟨by simp, fun W hb => ?_⟩
    have h0 : Below w.heap.size w ((w.alloc (.cells (commC x).toArray 82)).alloc (.cells (packetC sum epoch frm number A m c).toArray 26)) := ((Below.refl _ _).alloc (Nat.le_refl _) _).alloc (by simp) _
    have h1 : Below w.heap.size w W := h0.trans (hb.mono (by omega))
    have hz : ((w.alloc (.cells (commC x).toArray 82)).alloc (.cells (packetC sum epoch frm number A m c).toArray 26)).heap.size = w.heap.size + 2 := by simp
    exact ⟨(Blk.alloc (Blk.new w _ _) _).below hb (by omega), PkBox.below (show PkBox ((w.alloc (.cells (commC x).toArray 82)).alloc (.cells (packetC sum epoch frm number A m c).toArray 26)) (w.heap.size + 1) sum epoch frm number A m c from Blk.at_size _ _ (by simp)) hb (by omega), h1, by have := hb.size; omega, hr.below h1 hB, ht.below (h1.mono hB)⟩)
  have HPa := Lib.hid (fun (W : World) (h : RdC0 W B x) (hb : B ≤ W.heap.size) => lawPath_any h.len.leaf h.steps hb h.slen)
  obtain ⟨n, hn⟩ : ∃ n, n = x.props.length := ⟨_, rfl⟩
  have HN := Lib.hid hn
  have hmax : n ≤ 9223372036854775807 := by rw [hn]; exact hr.plen
  have HC66 := Lib.hid (fun (W : World) (h : Blk W w.heap.size 82 (commC x)) => (show W.cell? ⟨w.heap.size, 66, none⟩ = some (.slice x.Ap n x.cp) by rw [hn]; exact commC_props h HX.out))
  have hpp := fun W1 (h : Rd b8 W1 B A text) (hb : B ≤ W1.heap.size) (hm1 : m ≤ 1000) => putPacket_any sum epoch frm number A m c B text W1 hs be'.1 (by omega) bf'.1 (by omega) bn'.1 (by omega) h hb hm (by omega)
  obtain ⟨pq, hpq⟩ : ∃ q, q = pkBad epoch frm number m := ⟨_, rfl⟩
  simp only [← hpq] at hpp
  have hpok := fun (h5 : m ≤ 1000) (h : pq = false) => pk_cuts hs hm h5 more (h ▸ hpq)
  obtain ⟨Y, hY⟩ : ∃ Y, Y = pkBytes sum epoch frm number text := ⟨_, rfl⟩
  simp only [← hY] at hpp hpok
  have HPp := Lib.hid hpp
  have HPok0 := Lib.hid hpok
  clear hr hn be' bf' bn' we wf wn hs hm ht hpp hc hmc hpok hY hpq
  by_cases hn50 : n ≤ 50
  · have hn5 : ((50 : Int) < n) = False := by simp; omega
    by_cases hm1 : m ≤ 1000
    · have hm5 : ((1000 : Int) < m) = False := by simp; omega
      have HPok := Lib.hid (HPok0.out hm1)
      go_enter Try.func39, Try.ntmps39
      go_wp2_with fail
      generalize hW0 : World.alloc (World.alloc w _) _ = W0
      have hf := HF.out W0 hW0
      obtain ⟨hz0, hf0⟩ := hf
      have HK := Lib.hid hf0
      have hz0' : w.heap.size + 2 ≤ W0.heap.size := by omega
      have HZ0 := Lib.hid hz0
      clear hW0 hf0 HF hz0
      refine (alive09_any _).mono ?_
      rintro e w1 ⟨rfl, hb1⟩
      have HB1 := Lib.hid (show Below (w.heap.size + 2) W0 w1 from hb1.mono hz0')
      have hz1 : w.heap.size + 2 ≤ w1.heap.size := (HK.out _ HB1.out).2.2.2.1
      have c66 := HC66.out _ (HK.out _ HB1.out).1
      have c35 := (HK.out _ HB1.out).2.1.c35 HS.out
      clear hb1 hz0'
      go_wp2_with (refine wpList_load_midw (by first | rfl | go_simp) 80 (.tmp 30) rfl w.heap.size 67 rfl x.path.cells _ (commC_path (HK.out _ HB1.out).1 HX.out) Try.underlying80 rfl (by rw [pathC_len HX.out.leaf]; exact infoPath) ?_)
      refine (HPa.out w1 (HK.out _ HB1.out).2.2.2.2.1 (by omega)).mono ?_
      rintro e w2 ⟨lt, rfl, hlt, hb2⟩
      have HLt := Lib.hid hlt
      have HB2 := Lib.hid (HB1.out.trans (hb2.mono hz1))
      have hz2 : w.heap.size + 2 ≤ w2.heap.size := (HK.out _ HB2.out).2.2.2.1
      have c66 := HC66.out _ (HK.out _ HB2.out).1
      have c35 := (HK.out _ HB2.out).2.1.c35 HS.out
      clear hb2 hlt hz1
      cases lt with
      | false =>
        go_wp2_with fail
        go_ret
        exact ⟨rfl, (HK.out _ HB2.out).2.2.1⟩
      | true =>
        go_wp2_with fail
        clear c66 c35 hm5 hn5
        go_loopw [44] (fun iv wr => ∃ k : Nat, k ≤ n ∧ iv = .int .i64 (k : Int) ∧ (∀ t ∈ x.props.take k, t.x.leaf.um.length ≤ 300) ∧ Below (w.heap.size + 2) W0 wr) (fun iv _ => n - (intOf iv).toNat)
        case atStart => exact ⟨0, by omega, rfl, (fun t ht => by simp at ht), HB2.out⟩
        case round =>
          obtain ⟨k, hk, rfl, hall, hb⟩ := hrel
          have HAll := Lib.hid hall
          have HBr := Lib.hid hb
          have hszr : w.heap.size + 2 ≤ wr.heap.size := (HK.out _ hb).2.2.2.1
          clear hall hb
          by_cases hlt : k < n
          · have hlt' : (k : Int) < (n : Int) := by omega
            obtain ⟨t, ht⟩ : ∃ t, x.props[k]? = some t := ⟨x.props[k]'(by rw [← HN.out]; omega), List.getElem?_eq_getElem _⟩
            have hrc := (HK.out _ HBr.out).2.2.2.2.1
            have hok := (hrc.el t (List.mem_of_getElem? ht)).ok
            obtain ⟨b, off, e1, hbb, hc0⟩ := RdV.elem (K := 263) hrc.row (fun t ht => propC_len ((hrc.el t ht).ok) t.A t.c) (by omega) ht
            have hc1 : wr.rangeAt b (off + k * 263) (propC t.x t.A t.c) := by rw [Nat.mul_comm] at hc0; exact hc0
            have HT := Lib.hid ht
            have HC := Lib.hid hc1
            have HLen := Lib.hid (propC_len hok t.A t.c)
            have HOkt := Lib.hid hok
            obtain ⟨un, hun⟩ : ∃ u, u = decide ((t.x.leaf.um.length : Int) < 100) := ⟨_, rfl⟩
            have hlaw := fun W => lawNode_any t.x.leaf hok.leaf t.A t.c W
            rw [← hun] at hlaw
            have HLaw := Lib.hid hlaw
            have HUn := Lib.hid hun
            rw [e1]
            clear ht hc0 hc1 hok e1 hun hlaw hrc
            go_wp2_with (first
              | (refine wpList_load_midw (by first | rfl | go_simp) 71 (.tmp 46) rfl b (off + k * 263) rfl (propC t.x t.A t.c) _ HC.out Try.underlying71 rfl (by rw [HLen.out]; exact infoProp) ?_)
              | (refine wpList_store_blk rfl 71 _ _ rfl wr.heap.size rfl (propC t.x t.A t.c) rfl _ _ (Blk.new wr 71 zPropC) (by rw [zPropC_len, HLen.out]) (by rw [HLen.out]; exact infoProp) (propC_one _ _ _) ?_; intro w3 hp3 hg3; have HP3 := Lib.hid hp3; have HB3 := Lib.hid (below_box hg3); clear hp3 hg3)
              | (refine wpList_load_midw (by first | rfl | go_simp) 50 (.tmp 48) rfl wr.heap.size 67 rfl (nodeC t.x.leaf t.A t.c) _ (propC_leaf HP3.out HOkt.out) Try.underlying50 rfl (by rw [nodeC_len HOkt.out.leaf]; exact infoNode) ?_))
            refine (HLaw.out w3).mono ?_
            rintro e w4 ⟨rfl, hb4⟩
            have HB4 := Lib.hid (HBr.out.trans ((HB3.out.trans (hb4.mono HB3.out.size)).mono hszr))
            clear hb4
            cases un with
            | false =>
              go_wp2_with fail
              go_ret
              exact ⟨rfl, (HK.out _ HB4.out).2.2.1⟩
            | true =>
              go_wp2_with fail
              refine ⟨⟨k + 1, by omega, by congr 1, ?_, HB4.out⟩, by show n - ((k : Int) + 1).toNat < n - (k : Int).toNat; omega⟩
              intro t' ht'
              rw [List.take_add_one, HT.out] at ht'
              rcases List.mem_append.1 ht' with h | h
              · exact HAll.out t' h
              · simp at h
                subst h
                have := HUn.out.symm
                simp at this
                omega
          · obtain rfl : k = n := by omega
            have hall := HAll.out
            rw [List.take_of_length_le (by rw [HN.out]; exact Nat.le_refl _)] at hall
            have hrc := ((HK.out _ HBr.out).2.2.2.2.1).full hall (by have := HLt.out (by trivial); omega)
            have HVk := Lib.hid (commV_ok hrc)
            have hput := putComm_any x hrc (show B ≤ wr.heap.size by omega)
            obtain ⟨q, hq⟩ : ∃ q, q = (commBad x || decide (65536 < (commB x).length)) := ⟨_, rfl⟩
            simp only [← hq] at hput
            have HQ := Lib.hid hq
            clear hq hall hrc HAll
            cases q with
            | true =>
              simp only [reduceIte] at hput
              rw [errV_pos (by simp)] at hput
              have HPut := Lib.hid hput
              clear hput
              go_wp2_with (refine wpList_load_mid rfl 82 (.tmp 4) rfl w.heap.size 0 rfl (commC x) _ (Blk.whole (HK.out _ HBr.out).1) Try.underlying82 rfl (by rw [HXl.out]; exact infoComm) ?_)
              refine HPut.out.mono ?_
              rintro e w3 ⟨v3, rfl, ho3, hb3⟩
              have HB3 := Lib.hid (HBr.out.trans (hb3.mono hszr))
              clear ho3 hb3 HPut
              have hzt : w.heap.size + 2 ≤ w3.heap.size := (HK.out _ HB3.out).2.2.2.1
              go_wp2_with (refine wpList_load_mid rfl 26 (.tmp 5) rfl (w.heap.size + 1) 0 rfl (packetC sum epoch frm number A m c) _ (Blk.whole (HK.out _ HB3.out).2.1) Try.underlying26 rfl (by rw [HPl.out]; exact infoPacket) ?_)
              refine (HPp.out w3 (HK.out _ HB3.out).2.2.2.2.2 (by omega) hm1).mono ?_
              rintro e wa ⟨va, rfl, hoa, hba⟩
              have HBa := Lib.hid (HB3.out.trans (hba.mono hzt))
              have hza : w3.heap.size ≤ wa.heap.size := hba.size
              clear hba
              cases pq with
              | true =>
                rw [if_pos rfl] at hoa
                rw [if_pos rfl, errV_pos (by simp)]
                obtain ⟨Aa, ca, rfl, -, -, -, -⟩ := hoa.shape' (n := 0) rfl
                clear hoa
                go_wp2_with fail
                go_ret
                exact ⟨rfl, (HK.out _ HBa.out).2.2.1⟩
              | false =>
                rw [if_neg (by simp)] at hoa
                rw [if_neg (by simp), errV_zero]
                obtain ⟨L2, hL2e, hL2p, hL2m, hyl, hyless, hymore⟩ := HPok.out rfl
                obtain ⟨gp, cp, rfl, -, hgp, hcp⟩ := hoa.form' hyl hL2p
                obtain ⟨K2, hK2, hKL2⟩ := umod_lt at' hL2p (by omega)
                have HKe2 := Lib.hid hK2
                have HLess2 := Lib.hid (hyless K2 hKL2)
                have HMore2 := Lib.hid hymore
                have HYn := Lib.hid hyl
                have HOa := Lib.hid hoa
                clear hK2 hyless hymore hyl hoa hL2e
                have hKc2 : (K2 : Int) ≤ (cp : Int) := by omega
                have hK02 : (0 : Int) ≤ (K2 : Int) := by omega
                have hKc2' : K2 ≤ cp := by omega
                have hL02 : ((L2 : Int) = 0) = False := by simp; omega
                have hL12 : ((L2 : Int) == 0) = false := by simp; omega
                have hL22 : (L2 = 0) = False := by simp; omega
                have hL32 : IntKind.u64.wrap (L2 : Int) = (L2 : Int) := by rw [ofint_u64]; unfold bv; rw [BitVec.toNat_ofInt]; omega
                go_wp2_with (rw [HKe2.out])
                refine (takePacket_any (HOa.out.rd.take K2) (Nat.le_refl _) (by rw [List.length_take, HYn.out]; omega) hKc2' (by omega)).mono ?_
                rintro e wb ⟨hbb, ⟨hg, -⟩ | ⟨-, rfl⟩⟩
                · rw [HLess2.out] at hg; cases hg
                have hzb : w3.heap.size ≤ wb.heap.size := by have := hbb.size; omega
                have HBb := Lib.hid (HBa.out.trans (hbb.mono (show w.heap.size + 2 ≤ wa.heap.size by omega)))
                have HOb := Lib.hid (HOa.out.below hbb (Nat.le_refl _))
                have HZb := Lib.hid (show Blk (wb.alloc (.cells (packetC zero32 0 0 0 none 0 0).toArray 26)) wb.heap.size 26 (packetC zero32 0 0 0 none 0 0) from Blk.new wb _ _)
                clear hbb HOa HLess2 HKe2
                generalize (IntKind.u64.wrap at').tmod (L2 : Int) = u107
                generalize IntKind.u64.wrap at' = u102
                go_wp2_with (first
                  | (refine wpList_store_blk rfl 26 _ _ rfl wb.heap.size rfl (packetC zero32 0 0 0 none 0 0) rfl _ _ HZb.out rfl (by rw [packetC_len _ _ _ _ _ _ _ zero32_len]; exact infoPacket) (packetC_one _ _ _ _ _ _ _) ?_; intro wc hpc hgc; have hbc := below_box hgc; have hzc : w3.heap.size ≤ wc.heap.size := (by have := hbc.size; omega); have HBc := Lib.hid (HBb.out.trans (hbc.mono (show w.heap.size + 2 ≤ wb.heap.size by omega))); have HOc := Lib.hid (HOb.out.below hbc (Nat.le_refl _)); clear hpc hgc hbc)
                  | (at_builtin; refine wpList_append_rd rfl (.tmp 113) (.tmp 115) 24 rfl b8_one w3.heap.size 5 i0 _ 1 Try.underlying24 hi0 hsz1 hq1 hq2 rfl _ Y rfl (HOc.out.alloc _) (wc.heap.size + 1) _ 1 1 [more] rfl rfl (Rd.new b8 wc 5 [more]) (by simp [maxLen]; have := HYn.out; omega) (by have := HYn.out; simp; omega) (by simp; omega) ?_; intro vd wd hownd hgd hbd; obtain ⟨Ad, cd, rfl, hrdd, -, hled, -⟩ := hownd.shape' (n := L2 + 1) (by simp [HYn.out]); have hzd : w.heap.size + 2 ≤ wd.heap.size := (by have := hgd.size; simp at this; omega); have HRdd := Lib.hid hrdd; have HBd := Lib.hid (hbd _ _ (show w.heap.size + 2 ≤ w3.heap.size by omega) (HBc.out.alloc (by omega) _)); clear hownd hgd hbd hrdd))
                refine (takePacket_any HRdd.out (Nat.le_refl _) (by simp [HYn.out]) hled (by omega)).mono ?_
                rintro e we ⟨hbe, ⟨hg, -⟩ | ⟨-, rfl⟩⟩
                · rw [HMore2.out] at hg; cases hg
                have hze : w.heap.size + 2 ≤ we.heap.size := by have := hbe.size; omega
                have HBe := Lib.hid (HBd.out.trans (hbe.mono hzd))
                have HZe := Lib.hid (show Blk (we.alloc (.cells (packetC zero32 0 0 0 none 0 0).toArray 26)) we.heap.size 26 (packetC zero32 0 0 0 none 0 0) from Blk.new we _ _)
                clear hbe HRdd HMore2 HBd HOc HBc
                go_wp2_with (refine wpList_store_blk rfl 26 _ _ rfl we.heap.size rfl (packetC zero32 0 0 0 none 0 0) rfl _ _ HZe.out rfl (by rw [packetC_len _ _ _ _ _ _ _ zero32_len]; exact infoPacket) (packetC_one _ _ _ _ _ _ _) ?_; intro wg hpg hgg; have HBg := Lib.hid (HBe.out.trans ((below_box hgg).mono hze)); clear hpg hgg)
                refine (is33 wg).mono ?_
                rintro e w' ⟨rfl, rfl⟩
                go_wp2_with fail
                refine (is33 wg).mono ?_
                rintro e w' ⟨rfl, rfl⟩
                go_wp2_with fail
                go_ret
                exact ⟨rfl, (HK.out _ HBg.out).2.2.1⟩
            | false =>
              simp only [Bool.false_eq_true, reduceIte, errV_zero] at hput
              have HPut := Lib.hid hput
              clear hput
              have hq2 := HQ.out.symm
              rw [Bool.or_eq_false_iff, decide_eq_false_iff_not] at hq2
              have hlen : (commB x).length ≤ 65536 := by omega
              have hlp : 0 < (commB x).length := by unfold commB; rw [List.length_append, groupB_len]; omega
              have hbv : commBadX x.v = false := by rw [← commBad_X]; exact hq2.1
              have hless : ∀ k, k < (commB x).length → goodC ((commB x).take k) = false := by rw [commB_X]; exact fun k hk => goodC_less HVk.out hbv hk
              have hmore : goodC (commB x ++ [more]) = false := by rw [commB_X]; exact goodC_more HVk.out hbv (by simp)
              obtain ⟨X, hX⟩ : ∃ X, X = commB x := ⟨_, rfl⟩
              obtain ⟨L, hL⟩ : ∃ L, L = X.length := ⟨_, rfl⟩
              rw [← hX] at hlen hlp hless hmore HPut
              rw [← hL] at hlen hlp hless
              have HXn := Lib.hid hL.symm
              obtain ⟨K, hK, hKL⟩ := umod_lt at' hlp (by omega)
              have HKe := Lib.hid hK
              have HLess := Lib.hid (hless K hKL)
              have HMore := Lib.hid hmore
              clear hX hL hq2 hbv hless hmore hK
              go_wp2_with (refine wpList_load_mid rfl 82 (.tmp 4) rfl w.heap.size 0 rfl (commC x) _ (Blk.whole (HK.out _ HBr.out).1) Try.underlying82 rfl (by rw [HXl.out]; exact infoComm) ?_)
              refine HPut.out.mono ?_
              rintro e w3 ⟨v3, rfl, ho3, hb3⟩
              have HB3 := Lib.hid (HBr.out.trans (hb3.mono hszr))
              have hz3 : wr.heap.size ≤ w3.heap.size := hb3.size
              obtain ⟨gb, cb, rfl, hgb1, hgb2, hcb⟩ := ho3.form' HXn.out hlp
              have HO3 := Lib.hid ho3
              clear ho3 hb3 HPut
              have hKc : (K : Int) ≤ (cb : Int) := by omega
              have hK0 : (0 : Int) ≤ (K : Int) := by omega
              have hKc' : K ≤ cb := by omega
              have hL0 : ((L : Int) = 0) = False := by simp; omega
              have hL1 : ((L : Int) == 0) = false := by simp; omega
              have hL2 : (L = 0) = False := by simp; omega
              have hL3 : IntKind.u64.wrap (L : Int) = (L : Int) := by rw [ofint_u64]; unfold bv; rw [BitVec.toNat_ofInt]; omega
              go_wp2_with (rw [HKe.out])
              refine (takeComm_any (HO3.out.rd.take K) (Nat.le_refl _) (by rw [List.length_take, HXn.out]; omega) hKc' (by omega)).mono ?_
              rintro e w4 ⟨hb4, ⟨hg, -⟩ | ⟨-, rfl⟩⟩
              · rw [HLess.out] at hg; cases hg
              have hz4 : wr.heap.size ≤ w4.heap.size := by have := hb4.size; omega
              have HB4 := Lib.hid (HB3.out.trans (hb4.mono (show w.heap.size + 2 ≤ w3.heap.size by omega)))
              have HO4 := Lib.hid (HO3.out.below hb4 (Nat.le_refl _))
              have HZ4 := Lib.hid (show Blk (w4.alloc (.cells zerosCommit.toArray 82)) w4.heap.size 82 zerosCommit from Blk.new w4 _ _)
              clear hb4 HO3 HLess HB3
              clear HKe
              generalize (IntKind.u64.wrap at').tmod (L : Int) = u67
              generalize IntKind.u64.wrap at' = u63
              go_wp2_with (first
                | (refine wpList_store_blk rfl 82 _ _ rfl w4.heap.size rfl zerosCommit rfl _ _ HZ4.out rfl (by rw [zerosCommit_len]; exact infoComm) zerosCommit_one ?_; intro w5 hp5 hg5; have hb5 := below_box hg5; have hz5 : wr.heap.size ≤ w5.heap.size := (by have := hb5.size; omega); have HB5 := Lib.hid (HB4.out.trans (hb5.mono (show w.heap.size + 2 ≤ w4.heap.size by omega))); have HO5 := Lib.hid (HO4.out.below hb5 (Nat.le_refl _)); clear hp5 hg5 hb5)
                | (at_builtin; refine wpList_append_rd rfl (.tmp 74) (.tmp 76) 24 rfl b8_one wr.heap.size 5 i0 _ 1 Try.underlying24 hi0 hsz1 hq1 hq2 rfl _ X rfl (HO5.out.alloc _) (w5.heap.size + 1) _ 1 1 [more] rfl rfl (Rd.new b8 w5 5 [more]) (by simp [maxLen]; have := HXn.out; omega) (by have := HXn.out; simp; omega) (by simp; omega) ?_; intro v6 w6 hown6 hg6 hb6; obtain ⟨A6, c6, rfl, hrd6, -, hle6, -⟩ := hown6.shape' (n := L + 1) (by simp [HXn.out]); have hz6 : w.heap.size + 2 ≤ w6.heap.size := (by have := hg6.size; simp at this; omega); have HRd6 := Lib.hid hrd6; have HB6 := Lib.hid (hb6 _ _ (show w.heap.size + 2 ≤ wr.heap.size by omega) (HB5.out.alloc (by omega) _)); clear hown6 hg6 hb6 hrd6))
              refine (takeComm_any HRd6.out (Nat.le_refl _) (by simp [HXn.out]) hle6 (by omega)).mono ?_
              rintro e w7 ⟨hb7, ⟨hg, -⟩ | ⟨-, rfl⟩⟩
              · rw [HMore.out] at hg; cases hg
              have hz7 : w.heap.size + 2 ≤ w7.heap.size := by have := hb7.size; omega
              have HB7 := Lib.hid (HB6.out.trans (hb7.mono hz6))
              have HZ7 := Lib.hid (show Blk (w7.alloc (.cells zerosCommit.toArray 82)) w7.heap.size 82 zerosCommit from Blk.new w7 _ _)
              clear hb7 HRd6 HMore HB6 HO5 HB5
              go_wp2_with (refine wpList_store_blk rfl 82 _ _ rfl w7.heap.size rfl zerosCommit rfl _ _ HZ7.out rfl (by rw [zerosCommit_len]; exact infoComm) zerosCommit_one ?_; intro w8 hp8 hg8; have HB8 := Lib.hid (HB7.out.trans ((below_box hg8).mono hz7)); clear hp8 hg8)
              refine (is33 w8).mono ?_
              rintro e w' ⟨rfl, rfl⟩
              go_wp2_with fail
              refine (is33 w8).mono ?_
              rintro e w' ⟨rfl, rfl⟩
              have hzt : w.heap.size + 2 ≤ w8.heap.size := (HK.out _ HB8.out).2.2.2.1
              go_wp2_with (refine wpList_load_mid rfl 26 (.tmp 5) rfl (w.heap.size + 1) 0 rfl (packetC sum epoch frm number A m c) _ (Blk.whole (HK.out _ HB8.out).2.1) Try.underlying26 rfl (by rw [HPl.out]; exact infoPacket) ?_)
              refine (HPp.out w8 (HK.out _ HB8.out).2.2.2.2.2 (by omega) hm1).mono ?_
              rintro e wa ⟨va, rfl, hoa, hba⟩
              have HBa := Lib.hid (HB8.out.trans (hba.mono hzt))
              have hza : w8.heap.size ≤ wa.heap.size := hba.size
              clear hba
              cases pq with
              | true =>
                rw [if_pos rfl] at hoa
                rw [if_pos rfl, errV_pos (by simp)]
                obtain ⟨Aa, ca, rfl, -, -, -, -⟩ := hoa.shape' (n := 0) rfl
                clear hoa
                go_wp2_with fail
                go_ret
                exact ⟨rfl, (HK.out _ HBa.out).2.2.1⟩
              | false =>
                rw [if_neg (by simp)] at hoa
                rw [if_neg (by simp), errV_zero]
                obtain ⟨L2, hL2e, hL2p, hL2m, hyl, hyless, hymore⟩ := HPok.out rfl
                obtain ⟨gp, cp, rfl, -, hgp, hcp⟩ := hoa.form' hyl hL2p
                obtain ⟨K2, hK2, hKL2⟩ := umod_lt at' hL2p (by omega)
                have HKe2 := Lib.hid hK2
                have HLess2 := Lib.hid (hyless K2 hKL2)
                have HMore2 := Lib.hid hymore
                have HYn := Lib.hid hyl
                have HOa := Lib.hid hoa
                clear hK2 hyless hymore hyl hoa hL2e
                have hKc2 : (K2 : Int) ≤ (cp : Int) := by omega
                have hK02 : (0 : Int) ≤ (K2 : Int) := by omega
                have hKc2' : K2 ≤ cp := by omega
                have hL02 : ((L2 : Int) = 0) = False := by simp; omega
                have hL12 : ((L2 : Int) == 0) = false := by simp; omega
                have hL22 : (L2 = 0) = False := by simp; omega
                have hL32 : IntKind.u64.wrap (L2 : Int) = (L2 : Int) := by rw [ofint_u64]; unfold bv; rw [BitVec.toNat_ofInt]; omega
                go_wp2_with (rw [HKe2.out])
                refine (takePacket_any (HOa.out.rd.take K2) (Nat.le_refl _) (by rw [List.length_take, HYn.out]; omega) hKc2' (by omega)).mono ?_
                rintro e wb ⟨hbb, ⟨hg, -⟩ | ⟨-, rfl⟩⟩
                · rw [HLess2.out] at hg; cases hg
                have hzb : w8.heap.size ≤ wb.heap.size := by have := hbb.size; omega
                have HBb := Lib.hid (HBa.out.trans (hbb.mono (show w.heap.size + 2 ≤ wa.heap.size by omega)))
                have HOb := Lib.hid (HOa.out.below hbb (Nat.le_refl _))
                have HZb := Lib.hid (show Blk (wb.alloc (.cells (packetC zero32 0 0 0 none 0 0).toArray 26)) wb.heap.size 26 (packetC zero32 0 0 0 none 0 0) from Blk.new wb _ _)
                clear hbb HOa HLess2 HKe2
                generalize (IntKind.u64.wrap at').tmod (L2 : Int) = u107
                generalize IntKind.u64.wrap at' = u102
                go_wp2_with (first
                  | (refine wpList_store_blk rfl 26 _ _ rfl wb.heap.size rfl (packetC zero32 0 0 0 none 0 0) rfl _ _ HZb.out rfl (by rw [packetC_len _ _ _ _ _ _ _ zero32_len]; exact infoPacket) (packetC_one _ _ _ _ _ _ _) ?_; intro wc hpc hgc; have hbc := below_box hgc; have hzc : w8.heap.size ≤ wc.heap.size := (by have := hbc.size; omega); have HBc := Lib.hid (HBb.out.trans (hbc.mono (show w.heap.size + 2 ≤ wb.heap.size by omega))); have HOc := Lib.hid (HOb.out.below hbc (Nat.le_refl _)); clear hpc hgc hbc)
                  | (at_builtin; refine wpList_append_rd rfl (.tmp 113) (.tmp 115) 24 rfl b8_one w8.heap.size 5 i0 _ 1 Try.underlying24 hi0 hsz1 hq1 hq2 rfl _ Y rfl (HOc.out.alloc _) (wc.heap.size + 1) _ 1 1 [more] rfl rfl (Rd.new b8 wc 5 [more]) (by simp [maxLen]; have := HYn.out; omega) (by have := HYn.out; simp; omega) (by simp; omega) ?_; intro vd wd hownd hgd hbd; obtain ⟨Ad, cd, rfl, hrdd, -, hled, -⟩ := hownd.shape' (n := L2 + 1) (by simp [HYn.out]); have hzd : w.heap.size + 2 ≤ wd.heap.size := (by have := hgd.size; simp at this; omega); have HRdd := Lib.hid hrdd; have HBd := Lib.hid (hbd _ _ (show w.heap.size + 2 ≤ w8.heap.size by omega) (HBc.out.alloc (by omega) _)); clear hownd hgd hbd hrdd))
                refine (takePacket_any HRdd.out (Nat.le_refl _) (by simp [HYn.out]) hled (by omega)).mono ?_
                rintro e we ⟨hbe, ⟨hg, -⟩ | ⟨-, rfl⟩⟩
                · rw [HMore2.out] at hg; cases hg
                have hze : w.heap.size + 2 ≤ we.heap.size := by have := hbe.size; omega
                have HBe := Lib.hid (HBd.out.trans (hbe.mono hzd))
                have HZe := Lib.hid (show Blk (we.alloc (.cells (packetC zero32 0 0 0 none 0 0).toArray 26)) we.heap.size 26 (packetC zero32 0 0 0 none 0 0) from Blk.new we _ _)
                clear hbe HRdd HMore2 HBd HOc HBc
                go_wp2_with (refine wpList_store_blk rfl 26 _ _ rfl we.heap.size rfl (packetC zero32 0 0 0 none 0 0) rfl _ _ HZe.out rfl (by rw [packetC_len _ _ _ _ _ _ _ zero32_len]; exact infoPacket) (packetC_one _ _ _ _ _ _ _) ?_; intro wg hpg hgg; have HBg := Lib.hid (HBe.out.trans ((below_box hgg).mono hze)); clear hpg hgg)
                refine (is33 wg).mono ?_
                rintro e w' ⟨rfl, rfl⟩
                go_wp2_with fail
                refine (is33 wg).mono ?_
                rintro e w' ⟨rfl, rfl⟩
                go_wp2_with fail
                go_ret
                exact ⟨rfl, (HK.out _ HBg.out).2.2.1⟩
    · have hm5 : ((1000 : Int) < m) = True := by simp; omega
      go_enter Try.func39, Try.ntmps39
      go_wp2_with fail
      generalize hW0 : World.alloc (World.alloc w _) _ = W0
      have hf := HF.out W0 hW0
      obtain ⟨hz0, hf0⟩ := hf
      have HK := Lib.hid hf0
      have hz0' : w.heap.size + 2 ≤ W0.heap.size := by omega
      have HZ0 := Lib.hid hz0
      clear hW0 hf0 HF hz0
      refine (alive09_any _).mono ?_
      rintro e w1 ⟨rfl, hb1⟩
      have HB1 := Lib.hid (show Below (w.heap.size + 2) W0 w1 from hb1.mono hz0')
      have hz1 : w.heap.size + 2 ≤ w1.heap.size := (HK.out _ HB1.out).2.2.2.1
      have c66 := HC66.out _ (HK.out _ HB1.out).1
      have c35 := (HK.out _ HB1.out).2.1.c35 HS.out
      clear hb1 hz0'
      go_wp2_with (refine wpList_load_midw (by first | rfl | go_simp) 80 (.tmp 30) rfl w.heap.size 67 rfl x.path.cells _ (commC_path (HK.out _ HB1.out).1 HX.out) Try.underlying80 rfl (by rw [pathC_len HX.out.leaf]; exact infoPath) ?_)
      refine (HPa.out w1 (HK.out _ HB1.out).2.2.2.2.1 (by omega)).mono ?_
      rintro e w2 ⟨lt, rfl, hlt, hb2⟩
      have HB2 := Lib.hid (HB1.out.trans (hb2.mono hz1))
      have c35 := (HK.out _ HB2.out).2.1.c35 HS.out
      clear hb2 hlt
      cases lt <;>
      · go_wp2_with fail
        go_ret
        exact ⟨rfl, (HK.out _ HB2.out).2.2.1⟩
  · have hn5 : ((50 : Int) < n) = True := by simp; omega
    go_enter Try.func39, Try.ntmps39
    go_wp2_with fail
    generalize hW0 : World.alloc (World.alloc w _) _ = W0
    have hf := HF.out W0 hW0
    obtain ⟨hz0, hf0⟩ := hf
    have HK := Lib.hid hf0
    have hz0' : w.heap.size + 2 ≤ W0.heap.size := by omega
    have HZ0 := Lib.hid hz0
    clear hW0 hf0 HF hz0
    refine (alive09_any _).mono ?_
    rintro e w1 ⟨rfl, hb1⟩
    have HB1 := Lib.hid (show Below (w.heap.size + 2) W0 w1 from hb1.mono hz0')
    have hz1 : w.heap.size + 2 ≤ w1.heap.size := (HK.out _ HB1.out).2.2.2.1
    have c66 := HC66.out _ (HK.out _ HB1.out).1
    have c35 := (HK.out _ HB1.out).2.1.c35 HS.out
    clear hb1 hz0'
    go_wp2_with fail
    go_ret
    exact ⟨rfl, (HK.out _ HB1.out).2.2.1⟩
end Go.Proofs.Ytloglpamnalmeaa
