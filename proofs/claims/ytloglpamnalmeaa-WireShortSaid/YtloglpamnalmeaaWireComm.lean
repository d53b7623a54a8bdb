/- WireCommit, the walk. -/
import Derived.Test.YtloglpamnalmeaaWels
import Derived.Test.YtloglpamnalmeaaTakeComm
import Derived.Test.YtloglpamnalmeaaRefComm
import Derived.Test.YtloglpamnalmeaaLawPath
namespace Go.Proofs.Ytloglpamnalmeaa
open Go.RowKit
set_option linter.unusedVariables false
set_option linter.unusedSimpArgs false

/-- proposals as they come in -/
structure ElP0 (w : World) (B : Nat) (t : PropT) : Prop where
  ok : t.x.Ok
  um : Rd cI w B t.A t.x.leaf.um
structure RdC0 (w : World) (B : Nat) (x : CommT) : Prop where
  len : x.Len
  ep : (Lit.int .i64 x.ep).wf = true
  frm : (Lit.int .i64 x.frm).wf = true
  row : RdV w B x.Ap (x.props.flatMap PropT.cells)
  el : ∀ t ∈ x.props, ElP0 w B t
  plen : x.props.length ≤ 9223372036854775807
  um : Rd cI w B x.path.A x.path.leaf.um
  steps : RdS w B x.path.As x.path.steps
  slen : x.path.steps.length ≤ 9223372036854775807
theorem RdC0.full {w : World} {B : Nat} {x : CommT} (h : RdC0 w B x) (h1 : ∀ t ∈ x.props, t.x.leaf.um.length ≤ 300) (h2 : x.path.leaf.um.length ≤ 300) : RdC w B x :=
  ⟨h.len.grp, h.len.base, h.len.tag, h.len.sig, h.ep, h.frm, ⟨h.row, fun t ht => ⟨(h.el t ht).ok, (h.el t ht).um, h1 t ht⟩⟩, h.plen, ⟨h.len.leaf, h.um, h2, h.steps, h.slen⟩⟩
theorem commV_ok {w : World} {B : Nat} {x : CommT} (h : RdC w B x) : x.v.Ok := by
  refine ⟨h.grp, h.base, h.tag, h.sig, ?_, h.path.leaf, ?_⟩
  · intro p hp
    obtain ⟨t, ht, rfl⟩ := List.mem_map.1 hp
    exact (h.props.el t ht).ok
  · intro s hs
    obtain ⟨t, ht, rfl⟩ := List.mem_map.1 hs
    exact (h.path.steps.el t ht).key
set_option maxRecDepth 100000 in
set_option maxHeartbeats 4000000 in
theorem wireComm_walk {w : World} (x : CommT) (hr : RdC0 w w.heap.size x) :
    Calls Try.prog 9 #[.agg (commC x).toArray] w fun e w' => e = .returned (.bool true) ∧ Below w.heap.size w w' := by
  have HX := Lib.hid hr.len
  have HR := Lib.hid hr
  have HXl := Lib.hid (commC_len hr.len)
  have HPa := Lib.hid (fun (W : World) (hb : Below w.heap.size w W) => lawPath_any hr.len.leaf (hr.steps.below hb) hb.size hr.slen)
  obtain ⟨n, hn⟩ : ∃ n, n = x.props.length := ⟨_, rfl⟩
  have HN := Lib.hid hn
  have hmax : n ≤ 9223372036854775807 := by rw [hn]; exact hr.plen
  have HC66 := Lib.hid (fun (W : World) (h : Blk W w.heap.size 82 (commC x)) => (show W.cell? ⟨w.heap.size, 66, none⟩ = some (.slice x.Ap n x.cp) by rw [hn]; exact commC_props h HX.out))
  have HBx := Lib.hid (Blk.new w 82 (commC x))
  have HB0 := Lib.hid ((Below.refl w.heap.size w).alloc (Nat.le_refl _) (.cells (commC x).toArray 82))
  have hz0 := World.size_alloc w (.cells (commC x).toArray 82)
  clear hr hn
  by_cases hn300 : n < 300
  · have hn3 : (n : Int) < 300 := by omega
    go_enter Try.func9, Try.ntmps9
    go_wp2_with fail
    generalize World.alloc w _ = W0 at HBx HB0 hz0 ⊢
    refine (alive09_any _).mono ?_
    rintro e w1 ⟨rfl, hb1⟩
    have hz1 : W0.heap.size ≤ w1.heap.size := hb1.size
    have HBx1 := Lib.hid (HBx.out.below hb1 (by omega))
    have HB1 := Lib.hid (HB0.out.trans (hb1.mono (by omega)))
    have c66 := HC66.out _ HBx1.out
    have hzw : w.heap.size + 1 ≤ w1.heap.size := HBx1.out.lt
    clear hb1 HBx HB0 hz0 hz1
    go_wp2_with (refine wpList_load_midw (by first | rfl | go_simp) 80 (.tmp 21) rfl w.heap.size 67 rfl x.path.cells _ (commC_path HBx1.out HX.out) Try.underlying80 rfl (by rw [pathC_len HX.out.leaf]; exact infoPath) ?_)
    refine (HPa.out w1 HB1.out).mono ?_
    rintro e w2 ⟨lt, rfl, hlt, hb2⟩
    have HLt := Lib.hid hlt
    have HBx2 := Lib.hid (HBx1.out.below hb2 (by omega))
    have HB2 := Lib.hid (HB1.out.trans (hb2.mono (by omega)))
    have HG2 := Lib.hid (Below.refl (w.heap.size + 1) w2)
    have c66 := HC66.out _ HBx2.out
    clear hb2 hlt
    cases lt with
    | false =>
      go_wp2_with fail
      go_ret
      exact ⟨rfl, HB2.out⟩
    | true =>
      go_wp2_with fail
      clear c66 hn3
      go_loopw [29] (fun iv wr => ∃ k : Nat, k ≤ n ∧ iv = .int .i64 (k : Int) ∧ (∀ t ∈ x.props.take k, t.x.leaf.um.length ≤ 300) ∧ Below (w.heap.size + 1) w2 wr) (fun iv _ => n - (intOf iv).toNat)
      case atStart => exact ⟨0, by omega, rfl, (fun t ht => by simp at ht), HG2.out⟩
      case round =>
        obtain ⟨k, hk, rfl, hall, hb⟩ := hrel
        have HAll := Lib.hid hall
        have HBr := Lib.hid hb
        have HWr := Lib.hid (HB2.out.trans (hb.mono (by omega)))
        have hszr : w.heap.size ≤ wr.heap.size := HWr.out.size
        have HBxr := Lib.hid (HBx2.out.below hb (by omega))
        have hsz1 : w.heap.size + 1 ≤ wr.heap.size := HBxr.out.lt
        clear hall hb
        by_cases hlt : k < n
        · have hlt' : (k : Int) < (n : Int) := by omega
          obtain ⟨t, ht⟩ : ∃ t, x.props[k]? = some t := ⟨x.props[k]'(by rw [← HN.out]; omega), List.getElem?_eq_getElem _⟩
          have hok := (HR.out.el t (List.mem_of_getElem? ht)).ok
          obtain ⟨b, off, e1, hbb, hc0⟩ := RdV.elem (K := 263) (HR.out.row.below HWr.out) (fun t ht => propC_len ((HR.out.el t ht).ok) t.A t.c) (by omega) ht
          have hc1 : wr.rangeAt b (off + k * 263) (propC t.x t.A t.c) := by rw [Nat.mul_comm] at hc0; exact hc0
          have HT := Lib.hid ht
          have HC := Lib.hid hc1
          have HLen := Lib.hid (propC_len hok t.A t.c)
          have HOkt := Lib.hid hok
          obtain ⟨un, hun⟩ : ∃ u, u = decide ((t.x.leaf.um.length : Int) < 100) := ⟨_, rfl⟩
          have hlaw := fun W => lawNode_any t.x.leaf hok.leaf t.A t.c W
          rw [← hun] at hlaw
          have HLaw := Lib.hid hlaw
          have HUn := Lib.hid hun
          rw [e1]
          clear ht hc0 hc1 hok e1 hun hlaw
          go_wp2_with (first
            | (refine wpList_load_midw (by first | rfl | go_simp) 71 (.tmp 31) rfl b (off + k * 263) rfl (propC t.x t.A t.c) _ HC.out Try.underlying71 rfl (by rw [HLen.out]; exact infoProp) ?_)
            | (refine wpList_store_blk rfl 71 _ _ rfl wr.heap.size rfl (propC t.x t.A t.c) rfl _ _ (Blk.new wr 71 zPropC) (by rw [zPropC_len, HLen.out]) (by rw [HLen.out]; exact infoProp) (propC_one _ _ _) ?_; intro w3 hp3 hg3; have HP3 := Lib.hid hp3; have HB3 := Lib.hid (below_box hg3); clear hp3 hg3)
            | (refine wpList_load_midw (by first | rfl | go_simp) 50 (.tmp 33) rfl wr.heap.size 67 rfl (nodeC t.x.leaf t.A t.c) _ (propC_leaf HP3.out HOkt.out) Try.underlying50 rfl (by rw [nodeC_len HOkt.out.leaf]; exact infoNode) ?_))
          refine (HLaw.out w3).mono ?_
          rintro e w4 ⟨rfl, hb4⟩
          have HB4 := Lib.hid (HBr.out.trans ((HB3.out.trans (hb4.mono HB3.out.size)).mono hsz1))
          clear hb4
          cases un with
          | false =>
            go_wp2_with fail
            go_ret
            exact ⟨rfl, HB2.out.trans (HB4.out.mono (by omega))⟩
          | true =>
            go_wp2_with fail
            refine ⟨⟨k + 1, by omega, by congr 1, ?_, HB4.out⟩, by show n - ((k : Int) + 1).toNat < n - (k : Int).toNat; omega⟩
            intro t' ht'
            rw [List.take_add_one, HT.out] at ht'
            rcases List.mem_append.1 ht' with h | h
            · exact HAll.out t' h
            · simp at h
              subst h
              have := HUn.out.symm
              simp at this
              omega
        · obtain rfl : k = n := by omega
          have hall := HAll.out
          rw [List.take_of_length_le (by rw [HN.out]; exact Nat.le_refl _)] at hall
          have hrc := HR.out.full hall (by have := HLt.out (by trivial); omega)
          have HRc := Lib.hid hrc
          have HVk := Lib.hid (commV_ok hrc)
          have hput := fun W1 (hb : Below w.heap.size w W1) => putComm_any x (hrc.below hb) hb.size
          have href := fun W1 (hb : Below w.heap.size w W1) => refPutComm_any x (hrc.below hb) hb.size
          obtain ⟨q, hq⟩ : ∃ q, q = (commBad x || decide (65536 < (commB x).length)) := ⟨_, rfl⟩
          simp only [← hq] at hput href
          have HQ := Lib.hid hq
          clear hq hall hrc
          cases q with
          | true =>
            simp only [reduceIte] at hput
            rw [errV_pos (by simp)] at hput
            simp only [reduceIte, Bool.not_true] at href
            have HPut := Lib.hid hput
            have HRef := Lib.hid href
            clear hput href
            go_wp2_with (refine wpList_load_mid rfl 82 (.tmp 1) rfl w.heap.size 0 rfl (commC x) _ (Blk.whole HBxr.out) Try.underlying82 rfl (by rw [HXl.out]; exact infoComm) ?_)
            refine (HPut.out wr HWr.out).mono ?_
            rintro e w2' ⟨v2, rfl, ho2, hb2⟩
            have hz2' : wr.heap.size ≤ w2'.heap.size := hb2.size
            have HBx2' := Lib.hid (HBxr.out.below hb2 (by omega))
            have HB2' := Lib.hid (HWr.out.trans (hb2.mono HWr.out.size))
            have HO2 := Lib.hid ho2
            have HL2 := Lib.hid ho2.lt
            clear ho2 hb2 HPut
            go_wp2_with (refine wpList_load_mid rfl 82 (.tmp 1) rfl w.heap.size 0 rfl (commC x) _ (Blk.whole HBx2'.out) Try.underlying82 rfl (by rw [HXl.out]; exact infoComm) ?_)
            refine (HRef.out w2' HB2'.out).mono ?_
            rintro e w3 ⟨v3, rfl, ho3, hb3⟩
            have hz3 : w2'.heap.size ≤ w3.heap.size := hb3.size
            have HB3 := Lib.hid (HB2'.out.trans (hb3.mono HB2'.out.size))
            have HO23 := Lib.hid (HO2.out.below hb3 (Nat.le_refl _))
            have HO3 := Lib.hid ho3
            clear ho3 hb3 HRef
            obtain ⟨A2', c2', rfl, -, -, -, -⟩ := HO23.out.shape' (n := 0) rfl
            go_wp2_with fail
            refine (answer_bad A2' c2' v3).mono ?_
            rintro e w' ⟨rfl, rfl⟩
            go_wp2_with fail
            go_ret
            exact ⟨rfl, HB3.out⟩
          | false =>
            simp only [Bool.false_eq_true, reduceIte, errV_zero] at hput
            simp only [Bool.false_eq_true, reduceIte, Bool.not_false] at href
            have HPut := Lib.hid hput
            have HRef := Lib.hid href
            clear hput href
            go_wp2_with (refine wpList_load_mid rfl 82 (.tmp 1) rfl w.heap.size 0 rfl (commC x) _ (Blk.whole HBxr.out) Try.underlying82 rfl (by rw [HXl.out]; exact infoComm) ?_)
            refine (HPut.out wr HWr.out).mono ?_
            rintro e w2' ⟨v2, rfl, ho2, hb2⟩
            have hz2' : wr.heap.size ≤ w2'.heap.size := hb2.size
            have HBx2' := Lib.hid (HBxr.out.below hb2 (by omega))
            have HB2' := Lib.hid (HWr.out.trans (hb2.mono HWr.out.size))
            have HO2 := Lib.hid ho2
            have HL2 := Lib.hid ho2.lt
            clear ho2 hb2 HPut
            go_wp2_with (refine wpList_load_mid rfl 82 (.tmp 1) rfl w.heap.size 0 rfl (commC x) _ (Blk.whole HBx2'.out) Try.underlying82 rfl (by rw [HXl.out]; exact infoComm) ?_)
            refine (HRef.out w2' HB2'.out).mono ?_
            rintro e w3 ⟨v3, rfl, ho3, hb3⟩
            have hz3 : w2'.heap.size ≤ w3.heap.size := hb3.size
            have HB3 := Lib.hid (HB2'.out.trans (hb3.mono HB2'.out.size))
            have HO23 := Lib.hid (HO2.out.below hb3 (Nat.le_refl _))
            have HO3 := Lib.hid ho3
            clear ho3 hb3 HRef
            have hq2 := HQ.out.symm
            rw [Bool.or_eq_false_iff, decide_eq_false_iff_not] at hq2
            have hlen : (commB x).length ≤ 65536 := by omega
            have hlp : 0 < (commB x).length := by unfold commB; rw [List.length_append, groupB_len]; omega
            have hbv : commBadX x.v = false := by rw [← commBad_X]; exact hq2.1
            have hgd : goodC (commB x) = true := by rw [commB_X]; exact goodC_put HVk.out hbv (by rw [← commB_X]; exact hlen)
            have p1 : cmV (commB x, false) = x.v := by rw [commB_X]; exact (pComm_put HVk.out hbv).1
            obtain ⟨X, hX⟩ : ∃ X, X = commB x := ⟨_, rfl⟩
            rw [← hX] at hlen hlp hgd p1 HO23 HO3
            have HGd := Lib.hid hgd
            have HP1 := Lib.hid p1
            have HX' := Lib.hid hX
            obtain ⟨L, hL⟩ : ∃ L, L = X.length := ⟨_, rfl⟩
            have HXn := Lib.hid hL.symm
            rw [← hL] at hlen hlp
            clear hX hgd p1 hL hq2 hbv
            obtain ⟨gb, cb, rfl, hgb1, hgb2, hcb⟩ := HO23.out.form' HXn.out hlp
            obtain ⟨A3, c3, rfl, -, -, -, -⟩ := HO3.out.shape' HXn.out
            have hgb3 : gb < w2'.heap.size := (HL2.out gb rfl).2
            go_wp2_with fail
            refine (answer_ok cb c3 HO23.out.rd HO3.out.rd HXn.out HXn.out).mono ?_
            rintro e w' ⟨rfl, rfl⟩
            go_wp2_with fail
            refine (takeComm_any HO23.out.rd (Nat.le_refl _) HXn.out hcb (by omega)).mono ?_
            rintro e w4 ⟨hb4, ⟨hg, y, rfl, ho4, hv4⟩ | ⟨hg, -⟩⟩
            · rw [HP1.out] at hv4
              have hby : commB y = X := by rw [commB_X, hv4, ← commB_X, ← HX'.out]
              have hq4 : (commBad y || decide (65536 < X.length)) = false := by rw [commBad_X, hv4, ← commBad_X, HX'.out]; exact HQ.out.symm
              have hrf := fun (W1 : World) (B1 : Nat) (h1 : RdC W1 B1 y) (hB : B1 ≤ W1.heap.size) => refPutComm_any y h1 hB
              simp only [hby, hq4, Bool.false_eq_true, reduceIte, Bool.not_false] at hrf
              have HRf := Lib.hid hrf
              have hz4 : w3.heap.size ≤ w4.heap.size := hb4.size
              have HB4 := Lib.hid (HB3.out.trans (hb4.mono (by have := HB3.out.size; omega)))
              have HO24 := Lib.hid (HO23.out.below hb4 (Nat.le_refl _))
              have HO34 := Lib.hid (HO3.out.below hb4 (Nat.le_refl _))
              have HO4 := Lib.hid ho4
              have HZ4 := Lib.hid (show Blk (w4.alloc (.cells zerosCommit.toArray 82)) w4.heap.size 82 zerosCommit from Blk.new w4 _ _)
              have HYl := Lib.hid (commC_len ho4.rd.len)
              clear hb4 ho4 hg hv4 hby hq4 hrf HO23 HO3
              go_wp2_with (first
                | (refine wpList_store_blk rfl 82 _ _ rfl w4.heap.size rfl (commC y) rfl _ _ HZ4.out (by rw [zerosCommit_len, HYl.out]) (by rw [HYl.out]; exact infoComm) (commC_one _) ?_; intro w5 hp5 hg5; have HP5 := Lib.hid hp5; have HG5 := Lib.hid hg5; clear hp5 hg5)
                | (refine wpList_load_mid rfl 82 (.tmp 9) rfl w4.heap.size 0 rfl (commC y) _ (Blk.whole HP5.out) Try.underlying82 rfl (by rw [HYl.out]; exact infoComm) ?_))
              have hb5 : Below w4.heap.size w4 w5 := below_box HG5.out
              have hz5 : w4.heap.size + 1 ≤ w5.heap.size := by have := HG5.out.size; simpa using this
              have HO25 := Lib.hid (HO24.out.below hb5 (Nat.le_refl _))
              have HO35 := Lib.hid (HO34.out.below hb5 (Nat.le_refl _))
              have HOa5 := Lib.hid (HO4.out.below hb5 (Nat.le_refl _))
              have HB5 := Lib.hid (HB4.out.trans (hb5.mono (by have := HB4.out.size; omega)))
              clear hb5 HG5 HO24 HO34 HO4 HZ4
              refine (HRf.out w5 _ HOa5.out.rd (Nat.le_refl _)).mono ?_
              rintro e w6 ⟨v6, rfl, ho6, hb6⟩
              obtain ⟨A6, c6, rfl, -, -, -, -⟩ := ho6.shape' HXn.out
              have hz6 : w5.heap.size ≤ w6.heap.size := hb6.size
              have HO26 := Lib.hid (HO25.out.below hb6 (Nat.le_refl _))
              have HO36 := Lib.hid (HO35.out.below hb6 (Nat.le_refl _))
              have HOa6 := Lib.hid (HOa5.out.below hb6 (Nat.le_refl _))
              have HP6 := Lib.hid (HP5.out.below hb6 (by omega))
              have HB6 := Lib.hid (HB5.out.trans (hb6.mono (by have := HB5.out.size; omega)))
              have HO6 := Lib.hid ho6
              clear ho6 hb6 HO25 HO35 HOa5 HP5
              go_wp2_with fail
              refine (over_any HO26.out (by rw [HXn.out]; omega)).mono ?_
              rintro e w7 ⟨rfl, hg7⟩
              have hg7' : w6.grownBy w7 (some gb) := hg7
              have hz7 : w6.heap.size ≤ w7.heap.size := hg7'.size
              have HO37 := Lib.hid (HO36.out.kept hg7' (.inr (fun e => by have := (HO36.out.lt _ e).1; omega)))
              have HOa7 := Lib.hid (HOa6.out.kept hg7' (by omega))
              have HO67 := Lib.hid (HO6.out.kept hg7' (.inr (fun e => by have := (HO6.out.lt _ e).1; omega)))
              have HP7 := Lib.hid (HP6.out.grown hg7' (by intro e; have := Option.some.inj e; omega))
              have HB7 := Lib.hid (HB6.out.grown hg7' (by have := HB6.out.size; omega) (fun k e => by cases e; have := HWr.out.size; omega))
              clear hg7 hg7' HO26 HO36 HOa6 HO6 HP6
              go_wp2_with (refine wpList_load_mid rfl 82 (.tmp 9) rfl w4.heap.size 0 rfl (commC y) _ (Blk.whole HP7.out) Try.underlying82 rfl (by rw [HYl.out]; exact infoComm) ?_)
              refine (HRf.out w7 _ HOa7.out.rd (Nat.le_refl _)).mono ?_
              rintro e w8 ⟨v8, rfl, ho8, hb8⟩
              obtain ⟨A8, c8, rfl, -, -, -, -⟩ := ho8.shape' HXn.out
              have hz8 : w7.heap.size ≤ w8.heap.size := hb8.size
              have HO38 := Lib.hid (HO37.out.below hb8 (Nat.le_refl _))
              have HO68 := Lib.hid (HO67.out.below hb8 (Nat.le_refl _))
              have HB8 := Lib.hid (HB7.out.trans (hb8.mono (by have := HB7.out.size; omega)))
              have HO8 := Lib.hid ho8
              clear ho8 hb8 HO37 HOa7 HO67
              go_wp2_with fail
              refine (same_any c6 c3 HO68.out.rd HO38.out.rd HXn.out HXn.out).mono ?_
              rintro e w' ⟨rfl, rfl⟩
              rw [beq_self_eq_true]
              go_wp2_with fail
              refine (same_any c8 c3 HO8.out.rd HO38.out.rd HXn.out HXn.out).mono ?_
              rintro e w' ⟨rfl, rfl⟩
              rw [beq_self_eq_true]
              go_wp2_with fail
              go_ret
              exact ⟨rfl, HB8.out⟩
            · rw [HGd.out] at hg; cases hg
  · have hn3 : ((n : Int) < 300) = False := by simp; omega
    go_enter Try.func9, Try.ntmps9
    go_wp2_with fail
    generalize World.alloc w _ = W0 at HBx HB0 hz0 ⊢
    refine (alive09_any _).mono ?_
    rintro e w1 ⟨rfl, hb1⟩
    have hz1 : W0.heap.size ≤ w1.heap.size := hb1.size
    have HBx1 := Lib.hid (HBx.out.below hb1 (by omega))
    have HB1 := Lib.hid (HB0.out.trans (hb1.mono (by omega)))
    have c66 := HC66.out _ HBx1.out
    have hzw : w.heap.size + 1 ≤ w1.heap.size := HBx1.out.lt
    clear hb1 HBx HB0 hz0 hz1
    go_wp2_with fail
    go_ret
    exact ⟨rfl, HB1.out⟩
end Go.Proofs.Ytloglpamnalmeaa
