/- CONTRACT: burrowref09.PutCommit. -/
import Derived.Test.YtloglpamnalmeaaRefPathB
namespace Go.Proofs.Ytloglpamnalmeaa
open Go.RowKit
set_option linter.unusedVariables false
set_option linter.unusedSimpArgs false

theorem propsBad_off {ss : List PropT} (h : propsBad ss = false) (k : Nat) : propsBad (ss.take k) = false := by
  cases hb : propsBad (ss.take k) with
  | false => rfl
  | true => rw [propsBad_take ss k hb] at h; cases h
theorem propsB_len : ∀ {ss : List PropT}, (∀ s ∈ ss, s.x.Ok ∧ s.x.leaf.um.length ≤ 300) → (propsB ss).length ≤ ss.length * 700
  | [], _ => by simp [propsB]
  | s :: ss, h => by
    have ih := propsB_len (ss := ss) (fun x hx => h x (by simp [hx]))
    have h1 := propB_len (h s (by simp)).1 (h s (by simp)).2
    unfold propsB at ih ⊢
    rw [List.flatMap_cons, List.length_append, List.length_cons]
    omega
theorem pathB_len {w : World} {B : Nat} {p : PathT} (h : RdP w B p) (hg : pathBad p = false) : (pathB p).length ≤ 83560300 := by
  unfold pathBad at hg
  rw [Bool.or_eq_false_iff, Bool.or_eq_false_iff] at hg
  obtain ⟨N, hN, hNl⟩ := outOf_nat hg.1.2
  have h1 := stepsB_len (fun s hs => (h.steps.el s hs).key) hg.2
  have h2 : p.steps.length * 16711968 ≤ 5 * 16711968 := Nat.mul_le_mul_right _ (by omega)
  have h3 := nodeB_len h.leaf
  have h4 := h.uml
  unfold pathB
  rw [List.length_append, List.length_append, be_len]
  have h5 : (stepsB p.steps).length ≤ 83559840 := Nat.le_trans h1 h2
  omega
set_option maxRecDepth 100000 in
set_option maxHeartbeats 4000000 in
theorem refPutComm_any {w : World} (x : CommT) {B' : Nat} (hr : RdC w B' x) (hB' : B' ≤ w.heap.size) :
    Calls Try.prog 37 #[.agg (commC x).toArray] w fun e w' => ∃ v, e = .returned (.tuple #[v, .bool (!(commBad x || decide (65536 < (commB x).length)))]) ∧ Own b8 w' w.heap.size 5 v (if (commBad x || decide (65536 < (commB x).length)) then [] else commB x) ∧ Below w.heap.size w w' := by
  obtain ⟨i0, hi0, hz0, hz1, hz2⟩ := info_parts infoU8
  have HX := Lib.hid hr.len
  have HR := Lib.hid (show ∀ W, Below w.heap.size w W → RdC W B' x from fun W hb => hr.below (hb.mono hB'))
  have HBz := Lib.hid (Blk.new w 82 (commC x))
  have HBz0 := Lib.hid ((Below.refl w.heap.size w).alloc (Nat.le_refl _) (.cells (commC x).toArray 82))
  have hs0 := World.size_alloc w (.cells (commC x).toArray 82)
  obtain ⟨n, hn⟩ : ∃ n, n = x.props.length := ⟨_, rfl⟩
  have HN := Lib.hid hn
  have hmax : n ≤ 9223372036854775807 := by rw [hn]; exact hr.plen
  have HC66 := Lib.hid (fun (W : World) (h : Blk W w.heap.size 82 (commC x)) => (show W.cell? ⟨w.heap.size, 66, none⟩ = some (.slice x.Ap n x.cp) by rw [hn]; exact commC_props h HX.out))
  obtain ⟨h1, hh1⟩ : ∃ h, h = (outOf x.ep 4294967295 || outOf x.frm 31) := ⟨_, rfl⟩
  have HH := Lib.hid (fun W => headGood_any x.ep x.frm W)
  rw [← hh1] at HH
  obtain ⟨pb, hpb⟩ : ∃ h, h = pathBad x.path := ⟨_, rfl⟩
  have HPg := Lib.hid (fun W (hb : Below w.heap.size w W) => pathGood_any (hr.path.below (hb.mono hB')) (by have := hb.size; omega))
  rw [← hpb] at HPg
  have HPt := Lib.hid (fun W (hb : Below w.heap.size w W) (hg : pathBad x.path = false) => refPath_any (hr.path.below (hb.mono hB')) (by have := hb.size; omega) hg)
  rw [← hpb] at HPt
  have hcb : commBad x = (h1 || outOf n 255 || propsBad x.props || pb) := by unfold commBad; rw [hh1, hn, hpb]
  have HPl := Lib.hid (fun h => pathB_len hr.path h)
  rw [← hpb] at HPl
  have HH1 := Lib.hid hh1
  have c32 := commC_ep HBz.out HX.out
  have c33 := commC_frm HBz.out HX.out
  have c66 := HC66.out _ HBz.out
  clear hr hn hh1 hpb
  cases h1 with
  | true =>
    rw [show commBad x = true by rw [hcb]; rfl]
    clear hcb
    go_enter Try.func37, Try.ntmps37
    go_wp2_with fail
    generalize World.alloc w _ = wz at HBz HBz0 hs0 c32 c33 c66 ⊢
    have hsz0 : w.heap.size + 1 ≤ wz.heap.size := by omega
    clear hs0
    refine (HH.out _).mono ?_
    rintro e w' ⟨rfl, rfl⟩
    go_wp2_with fail
    go_ret2
    exact ⟨_, rfl, Own.nil_ _ _ _ _, HBz0.out⟩
  | false =>
    by_cases hn255 : 255 < n
    · have hn2 : (255 : Int) < (n : Int) := by omega
      rw [show commBad x = true by rw [hcb, show outOf (n : Int) 255 = true by unfold outOf; simp; omega]; simp]
      clear hcb
      go_enter Try.func37, Try.ntmps37
      go_wp2_with fail
      generalize World.alloc w _ = wz at HBz HBz0 hs0 c32 c33 c66 ⊢
      have hsz0 : w.heap.size + 1 ≤ wz.heap.size := by omega
      clear hs0
      refine (HH.out _).mono ?_
      rintro e w' ⟨rfl, rfl⟩
      go_wp2_with fail
      go_ret2
      exact ⟨_, rfl, Own.nil_ _ _ _ _, HBz0.out⟩
    · have hn2 : ((255 : Int) < (n : Int)) = False := by simp; omega
      rw [show outOf (n : Int) 255 = false by unfold outOf; simp; omega, Bool.false_or, Bool.false_or] at hcb
      cases pb with
      | true =>
        rw [show commBad x = true by rw [hcb]; simp]
        clear hcb
        go_enter Try.func37, Try.ntmps37
        go_wp2_with fail
        generalize World.alloc w _ = wz at HBz HBz0 hs0 c32 c33 c66 ⊢
        have hsz0 : w.heap.size + 1 ≤ wz.heap.size := by omega
        clear hs0
        refine (HH.out _).mono ?_
        rintro e w' ⟨rfl, rfl⟩
        go_wp2_with (refine wpList_load_midw (by first | rfl | go_simp) 80 (.tmp 19) rfl w.heap.size 67 rfl x.path.cells _ (commC_path HBz.out HX.out) Try.underlying80 rfl (by rw [pathC_len HX.out.leaf]; exact infoPath) ?_)
        refine (HPg.out _ HBz0.out).mono ?_
        rintro e w0 ⟨rfl, hb1⟩
        have HBx := Lib.hid (HBz.out.below hb1 (by omega))
        have HB0 := Lib.hid (HBz0.out.trans (hb1.mono (by omega)))
        have hsw : w.heap.size + 1 ≤ w0.heap.size := HBx.out.lt
        clear hb1 c32 c33 c66 HBz HBz0
        go_wp2_with fail
        go_ret2
        exact ⟨_, rfl, Own.nil_ _ _ _ _, HB0.out⟩
      | false =>
        rw [Bool.or_false] at hcb
        obtain ⟨E, hE, hEl⟩ := outOf_nat (Bool.or_eq_false_iff.1 HH1.out.symm).1
        obtain ⟨F, hF, hFl⟩ := outOf_nat (Bool.or_eq_false_iff.1 HH1.out.symm).2
        have HE := Lib.hid hE
        have HF := Lib.hid hF
        have hu := Try.underlying23
        have hi : (Try.prog.info? 23).map (·.size) = some (x.grp.map b8).length := by rw [List.length_map, HX.out.grp]; exact infoSum
        have hh := fun W => head9_any x.grp E F HX.out.grp (by omega) (by omega) W
        rw [arrV_mk] at hh
        have HHd := Lib.hid hh
        have HCB := Lib.hid hcb
        clear hE hF hh
        obtain ⟨qb, hqb⟩ : ∃ q, q = propsBad x.props := ⟨_, rfl⟩
        rw [← hqb] at HCB
        have HQB := Lib.hid hqb
        rw [HCB.out]
        obtain ⟨bg, hbg⟩ : ∃ b, b = decide (65536 < (commB x).length) := ⟨_, rfl⟩
        rw [← hbg]
        have HBg := Lib.hid hbg
        clear hqb hcb hbg
        have hf := beAt0 (n : Int)
        cases qb with
        | true =>
          go_enter Try.func37, Try.ntmps37
          go_wp2_with fail
          generalize World.alloc w _ = wz at HBz HBz0 hs0 c32 c33 c66 ⊢
          have hsz0 : w.heap.size + 1 ≤ wz.heap.size := by omega
          clear hs0
          refine (HH.out _).mono ?_
          rintro e w' ⟨rfl, rfl⟩
          go_wp2_with (refine wpList_load_midw (by first | rfl | go_simp) 80 (.tmp 19) rfl w.heap.size 67 rfl x.path.cells _ (commC_path HBz.out HX.out) Try.underlying80 rfl (by rw [pathC_len HX.out.leaf]; exact infoPath) ?_)
          refine (HPg.out _ HBz0.out).mono ?_
          rintro e w0 ⟨rfl, hb1⟩
          have HBx := Lib.hid (HBz.out.below hb1 (by omega))
          have HB0 := Lib.hid (HBz0.out.trans (hb1.mono (by omega)))
          have hsw : w.heap.size + 1 ≤ w0.heap.size := HBx.out.lt
          clear hb1 c32 c33 c66 HBz HBz0
          have c32 := (commC_ep HBx.out HX.out).trans (by rw [HE.out])
          have c33 := (commC_frm HBx.out HX.out).trans (by rw [HF.out])
          have c66 := HC66.out _ HBx.out
          have ck := commC_grp HBx.out
          go_wp2_with fail
          clear hn2
          go_region_held3 (fun w' => w'.cell? ⟨w.heap.size, 32, none⟩ = some (.int .i64 (E : Int)) ∧ w'.cell? ⟨w.heap.size, 33, none⟩ = some (.int .i64 (F : Int)) ∧ w'.cell? ⟨w.heap.size, 66, none⟩ = some (.slice x.Ap n x.cp) ∧ w'.rangeAt w.heap.size 0 (x.grp.map b8))
            (first
              | exact ⟨(commC_ep HBx3.out HX.out).trans (by rw [HE.out]), (commC_frm HBx3.out HX.out).trans (by rw [HF.out]), HC66.out _ (HBx3.out), commC_grp HBx3.out⟩
              | exact ⟨(commC_ep HBx2.out HX.out).trans (by rw [HE.out]), (commC_frm HBx2.out HX.out).trans (by rw [HF.out]), HC66.out _ (HBx2.out), commC_grp HBx2.out⟩
              | exact ⟨(commC_ep HBx1.out HX.out).trans (by rw [HE.out]), (commC_frm HBx1.out HX.out).trans (by rw [HF.out]), HC66.out _ (HBx1.out), commC_grp HBx1.out⟩
              | exact ⟨(commC_ep (HBx2.out.alloc _) HX.out).trans (by rw [HE.out]), (commC_frm (HBx2.out.alloc _) HX.out).trans (by rw [HF.out]), HC66.out _ (HBx2.out.alloc _), commC_grp (HBx2.out.alloc _)⟩
              | exact ⟨(commC_ep (HBx1.out.alloc _) HX.out).trans (by rw [HE.out]), (commC_frm (HBx1.out.alloc _) HX.out).trans (by rw [HF.out]), HC66.out _ (HBx1.out.alloc _), commC_grp (HBx1.out.alloc _)⟩
              | exact ⟨(commC_ep ((HBx.out.alloc _).drew) HX.out).trans (by rw [HE.out]), (commC_frm ((HBx.out.alloc _).drew) HX.out).trans (by rw [HF.out]), HC66.out _ ((HBx.out.alloc _).drew), commC_grp ((HBx.out.alloc _).drew)⟩
              | go_keep)
            (first
              | (go_simp; go_at_call 56; refine (HHd.out w0.drew).mono ?_; rintro e w1 ⟨v1, rfl, ho1, hb1⟩; have HO1 := Lib.hid (show Own b8 w1 w0.heap.size 5 v1 _ from ho1); have HG1 := Lib.hid (show Below w0.heap.size w0 w1 from (Below.refl w0.heap.size w0).drew.trans hb1); have HBx1 := Lib.hid (HBx.out.below HG1.out (by omega)); have hq1 : w0.heap.size ≤ w1.heap.size := HG1.out.size; clear ho1 hb1)
              | (go_simp; go_at_call 56; refine (HHd.out (w0.alloc (.cells #[.int .u8 (bv (beAt (n : Int) 0))] 5)).drew).mono ?_; rintro e w1 ⟨v1, rfl, ho1, hb1⟩; have hsA : w0.heap.size + 1 ≤ (w0.alloc (.cells #[.int .u8 (bv (beAt (n : Int) 0))] 5)).drew.heap.size := (by show w0.heap.size + 1 ≤ (w0.alloc (.cells #[.int .u8 (bv (beAt (n : Int) 0))] 5)).heap.size; simp); have HO1 := Lib.hid (ho1.less (show w0.heap.size ≤ (w0.alloc (.cells #[.int .u8 (bv (beAt (n : Int) 0))] 5)).drew.heap.size by omega)); have HLn := Lib.hid (show v1.ownBlock ≠ some w0.heap.size from fun e => by have := (ho1.lt _ e).1; omega); have HRL := Lib.hid (((Rd.new b8 w0 5 [beAt (n : Int) 0]).below (Below.refl _ _).drew).below (hb1.mono hsA)); have HG1 := Lib.hid (show Below w0.heap.size w0 w1 from ((Below.refl w0.heap.size w0).alloc (Nat.le_refl _) (.cells #[.int .u8 (bv (beAt (n : Int) 0))] 5)).drew.trans (hb1.mono (by omega))); have HBx1 := Lib.hid (HBx.out.below HG1.out (by omega)); have hq1 : w0.heap.size + 1 ≤ w1.heap.size := Nat.le_trans hsA hb1.size; clear ho1 hb1 hsA)
              | (refine step_append_rd rfl (.tmp 30) (.tmp 32) 24 rfl b8_one w0.heap.size 5 i0 _ 1 Try.underlying24 hi0 hz0 hz1 hz2 rfl _ _ rfl HO1.out (w.heap.size + 1) _ 32 32 x.base rfl HX.out.base.symm (rd_of_range (commC_base HBx1.out HX.out)) (by simp only [groupB_len, HX.out.grp, HX.out.base, maxLen]; omega) (by simp only [groupB_len, HX.out.grp, HX.out.base]; omega) (by omega) ?_; intro v2 w2 hown2 hg2 hbb2; have HO2 := Lib.hid hown2; have HG2 := Lib.hid (hbb2 _ _ (Nat.le_refl _) HG1.out); have HBx2 := Lib.hid (HBx.out.below HG2.out (by omega)); have hq2 : w0.heap.size ≤ w2.heap.size := HG2.out.size; (first | (have HRL2 := Lib.hid (rd_far HRL.out hg2.by_ (by omega) HLn.out)) | skip); clear hown2 hg2 hbb2)
              | (refine step_append_rd rfl (.tmp 30) (.tmp 32) 24 rfl b8_one w0.heap.size 5 i0 _ 1 Try.underlying24 hi0 hz0 hz1 hz2 rfl _ _ rfl (HO1.out.alloc (.cells #[.int .u8 (bv (beAt (n : Int) 0))] 5)) (w.heap.size + 1) _ 32 32 x.base rfl HX.out.base.symm (rd_of_range (commC_base (HBx1.out.alloc _) HX.out)) (by simp only [groupB_len, HX.out.grp, HX.out.base, maxLen]; omega) (by simp only [groupB_len, HX.out.grp, HX.out.base]; omega) (by rw [World.size_alloc]; omega) ?_; intro v2 w2 hown2 hg2 hbb2; have HO2 := Lib.hid hown2; have HG2 := Lib.hid (hbb2 _ _ (Nat.le_refl _) (HG1.out.alloc (by omega) (.cells #[.int .u8 (bv (beAt (n : Int) 0))] 5))); have HBx2 := Lib.hid (HBx.out.below HG2.out (by omega)); have hq2 : w0.heap.size ≤ w2.heap.size := HG2.out.size; have HRL2 := Lib.hid (rd_far (Rd.new b8 w1 5 [beAt (n : Int) 0]) hg2.by_ (by rw [World.size_alloc]; omega) (fun e => by have := HO1.out.lt _ e; omega)); clear hown2 hg2 hbb2)
              | (refine step_append_rd rfl (.tmp 33) (.tmp 38) 24 rfl b8_one w0.heap.size 5 i0 _ 1 Try.underlying24 hi0 hz0 hz1 hz2 rfl _ _ rfl HO2.out _ _ 1 1 [beAt (n : Int) 0] rfl rfl HRL2.out (by simp only [List.length_append, List.length_singleton, groupB_len, HX.out.grp, HX.out.base, maxLen]; omega) (by simp only [List.length_append, List.length_singleton, groupB_len, HX.out.grp, HX.out.base]; omega) (by omega) ?_; intro v3 w3 hown3 hg3 hbb3; obtain ⟨A3, c3, rfl, -, -, -, -⟩ := hown3.shape' (n := 70) (by simp only [List.length_append, List.length_singleton, groupB_len, HX.out.grp, HX.out.base]); have HO3 := Lib.hid hown3; have HG3 := Lib.hid (hbb3 _ _ (Nat.le_refl _) HG2.out); have HBx3 := Lib.hid (HBx.out.below HG3.out (by omega)); clear hown3 hg3 hbb3)
              | (refine step_append_rd rfl (.tmp 33) (.tmp 38) 24 rfl b8_one w0.heap.size 5 i0 _ 1 Try.underlying24 hi0 hz0 hz1 hz2 rfl _ _ rfl (HO2.out.alloc (.cells #[.int .u8 (bv (beAt (n : Int) 0))] 5)) (w2.heap.size + 1) _ 1 1 [beAt (n : Int) 0] rfl rfl (Rd.new b8 w2 5 [beAt (n : Int) 0]) (by simp only [List.length_append, List.length_singleton, groupB_len, HX.out.grp, HX.out.base, maxLen]; omega) (by simp only [List.length_append, List.length_singleton, groupB_len, HX.out.grp, HX.out.base]; omega) (by rw [World.size_alloc]; omega) ?_; intro v3 w3 hown3 hg3 hbb3; obtain ⟨A3, c3, rfl, -, -, -, -⟩ := hown3.shape' (n := 70) (by simp only [List.length_append, List.length_singleton, groupB_len, HX.out.grp, HX.out.base]); have HO3 := Lib.hid hown3; have HG3 := Lib.hid (hbb3 _ _ (Nat.le_refl _) (HG2.out.alloc (by omega) (.cells #[.int .u8 (bv (beAt (n : Int) 0))] 5))); have HBx3 := Lib.hid (HBx.out.below HG3.out (by omega)); clear hown3 hg3 hbb3))
          · skip
            obtain ⟨hd, hhd⟩ : ∃ hd, hd = groupB x.grp (E : Int) (F : Int) ++ x.base ++ [beAt (n : Int) 0] := ⟨_, rfl⟩
            have hhl : hd.length = 70 := by rw [hhd]; simp only [List.length_append, List.length_singleton, groupB_len, HX.out.grp, HX.out.base]
            have ho3 := HO3.out
            rw [← hhd] at ho3
            have HO3 := Lib.hid ho3
            have HHd := Lib.hid hhd
            have HHl := Lib.hid hhl
            clear ho3 hhd hhl c32 c33 c66 ck hf
            go_wp2_with fail
            go_loopw [4, 5] (fun rv iv wr => ∃ k : Nat, k ≤ n ∧ iv = .int .i64 (k : Int) ∧ propsBad (x.props.take k) = false ∧ Own b8 wr w0.heap.size 5 rv (hd ++ propsB (x.props.take k)) ∧ Below w0.heap.size w0 wr) (fun _ iv _ => n - (intOf iv).toNat)
            case atStart => exact ⟨0, by omega, rfl, rfl, HO3.out.cast (by simp [propsB]), HG3.out⟩
            case round =>
              obtain ⟨k, hk, rfl, hsb, ho, hb⟩ := hrel
              have HSb := Lib.hid hsb
              have HOr := Lib.hid ho
              have HGr := Lib.hid hb
              have HBxr := Lib.hid (HBx.out.below hb (by omega))
              have HWr := Lib.hid (HB0.out.trans (hb.mono (show w.heap.size ≤ w0.heap.size by omega)))
              have c66 := HC66.out _ HBxr.out
              have hqr : w0.heap.size ≤ wr.heap.size := hb.size
              by_cases hlt : k < n
              · have hlt' : (k : Int) < (n : Int) := by omega
                obtain ⟨t, ht⟩ : ∃ t, x.props[k]? = some t := ⟨x.props[k]'(by rw [← HN.out]; omega), List.getElem?_eq_getElem _⟩
                have HT := Lib.hid ht
                have HRp := Lib.hid (fun (W : World) (hW : Below w.heap.size w W) => (HR.out W hW).props)
                obtain ⟨b, off, e1, hbb, hc1⟩ := (HRp.out _ HWr.out).elem ht
                have HC := Lib.hid (show ∀ W, Below w.heap.size w W → W.rangeAt b (off + k * 263) t.cells from fun W hW => by
                  obtain ⟨b', off', e', -, hc'⟩ := (HRp.out _ hW).elem ht
                  rw [e1] at e'
                  cases e'
                  exact hc')
                have HEl := Lib.hid (show ∀ W, Below w.heap.size w W → ElP W B' t from fun W hW => (HRp.out _ hW).el t (List.mem_of_getElem? ht))
                have hel := HEl.out _ HWr.out
                have HLen := Lib.hid (propC_len hel.ok t.A t.c)
                have hsk : propsBad (x.props.take (k + 1)) = propBad t.x := by rw [propsBad_succ x.props k t ht, HSb.out]; rfl
                have HSk := Lib.hid hsk
                have hul := hel.uml
                have HAp := Lib.hid e1
                rw [e1] at c66
                have HGd := Lib.hid (fun (W : World) (hW : Below w.heap.size w W) => propGood_any t.x hel.ok (c := t.c) (HEl.out _ hW).um (show B' ≤ W.heap.size by have := hW.size; omega))
                have HPr := Lib.hid (fun (W : World) (hW : Below w.heap.size w W) (hg : propBad t.x = false) => refProposal_any t.x hel.ok (c := t.c) (HEl.out _ hW).um (show B' ≤ W.heap.size by have := hW.size; omega) hul hg)
                have HPbl := Lib.hid (propB_len hel.ok hul)
                have hkl : (propsB (x.props.take k)).length ≤ 255 * 700 := by
                  have h := propsB_len (ss := x.props.take k) (fun s hs => ⟨((HRp.out _ HWr.out).el s (List.mem_of_mem_take hs)).ok, ((HRp.out _ HWr.out).el s (List.mem_of_mem_take hs)).uml⟩)
                  rw [List.length_take] at h
                  exact Nat.le_trans h (Nat.mul_le_mul_right _ (by omega))
                have HOl := Lib.hid (show (hd ++ propsB (x.props.take k)).length ≤ 200000 by rw [List.length_append, HHl.out]; omega)
                obtain ⟨tb, htb⟩ : ∃ tb, tb = propBad t.x := ⟨_, rfl⟩
                rw [← htb] at HGd HPr HSk
                clear hsb ho hb ht hc1 hel hsk hkl e1 htb
                obtain ⟨bl, hbl⟩ : ∃ l, l = (propB t.x).length := ⟨_, rfl⟩
                have HBl := Lib.hid hbl
                have hbl7 : bl ≤ 700 := by rw [hbl]; exact HPbl.out
                clear hbl
                go_wp2_with (refine wpList_load_midw (by first | rfl | go_simp) 71 (.tmp 50) rfl b (off + k * 263) rfl t.cells _ (HC.out _ HWr.out) Try.underlying71 rfl (by show _ = some (propC t.x t.A t.c).length; rw [HLen.out]; exact infoProp) ?_)
                refine (HGd.out _ HWr.out).mono ?_
                rintro e w4 ⟨rfl, hb4⟩
                have HW4 := Lib.hid (HWr.out.trans (hb4.mono HWr.out.size))
                have HG4 := Lib.hid (HGr.out.trans (hb4.mono hqr))
                have HO4 := Lib.hid (HOr.out.below hb4 (Nat.le_refl _))
                have c66 := HC66.out _ (HBx.out.below HG4.out (by omega))
                rw [HAp.out] at c66
                have hq4 := HG4.out.size
                clear hb4
                cases tb with
                | true =>
                  go_wp2_with fail
                  go_ret2
                  exact ⟨_, rfl, Own.nil_ _ _ _ _, HW4.out⟩
                | false =>
                  go_wp2_with (refine wpList_load_midw (by first | rfl | go_simp) 71 (.tmp 58) rfl b (off + k * 263) rfl t.cells _ (HC.out _ HW4.out) Try.underlying71 rfl (by show _ = some (propC t.x t.A t.c).length; rw [HLen.out]; exact infoProp) ?_)
                  refine (HPr.out _ HW4.out (by trivial)).mono ?_
                  rintro e w5 ⟨v5, rfl, ho5, hb5⟩
                  obtain ⟨A5, c5, rfl, hr5, -, -, -⟩ := ho5.shape' HBl.out.symm
                  have HR5 := Lib.hid hr5
                  have HO5 := Lib.hid (HO4.out.below hb5 (Nat.le_refl _))
                  have HG5 := Lib.hid (HG4.out.trans (hb5.mono hq4))
                  have hq5 := HG5.out.size
                  clear ho5 hr5 hb5
                  go_wp2_with (at_builtin; refine wpList_append_rd rfl (.tmp 54) (.tmp 60) 24 rfl b8_one w0.heap.size 5 i0 _ 1 Try.underlying24 hi0 hz0 hz1 hz2 rfl _ _ rfl HO5.out w5.heap.size A5 bl c5 (propB t.x) rfl HBl.out HR5.out (by rw [← HBl.out]; have := HOl.out; simp only [maxLen]; omega) (by rw [← HBl.out]; have := HOl.out; omega) (by omega) ?_; intro v7 w7 hown7 hg7 hbb7; have HO7 := Lib.hid hown7; have HG7 := Lib.hid (hbb7 _ _ (Nat.le_refl _) HG5.out); clear hown7 hg7 hbb7)
                  exact ⟨⟨k + 1, by omega, by congr 1, HSk.out, HO7.out.cast (by rw [propsB_succ x.props k t HT.out, List.append_assoc]), HG7.out⟩, by show n - ((k : Int) + 1).toNat < n - (k : Int).toNat; omega⟩
              · obtain rfl : k = n := by omega
                have e9 : x.props.take k = x.props := List.take_of_length_le (by rw [HN.out]; exact Nat.le_refl _)
                rw [e9] at HSb HOr
                clear hb ho hsb e9
                exact absurd (HSb.out.symm.trans HQB.out.symm) (by simp)
          · skip
            obtain ⟨hd, hhd⟩ : ∃ hd, hd = groupB x.grp (E : Int) (F : Int) ++ x.base ++ [beAt (n : Int) 0] := ⟨_, rfl⟩
            have hhl : hd.length = 70 := by rw [hhd]; simp only [List.length_append, List.length_singleton, groupB_len, HX.out.grp, HX.out.base]
            have ho3 := HO3.out
            rw [← hhd] at ho3
            have HO3 := Lib.hid ho3
            have HHd := Lib.hid hhd
            have HHl := Lib.hid hhl
            clear ho3 hhd hhl c32 c33 c66 ck hf
            go_wp2_with fail
            go_loopw [4, 5] (fun rv iv wr => ∃ k : Nat, k ≤ n ∧ iv = .int .i64 (k : Int) ∧ propsBad (x.props.take k) = false ∧ Own b8 wr w0.heap.size 5 rv (hd ++ propsB (x.props.take k)) ∧ Below w0.heap.size w0 wr) (fun _ iv _ => n - (intOf iv).toNat)
            case atStart => exact ⟨0, by omega, rfl, rfl, HO3.out.cast (by simp [propsB]), HG3.out⟩
            case round =>
              obtain ⟨k, hk, rfl, hsb, ho, hb⟩ := hrel
              have HSb := Lib.hid hsb
              have HOr := Lib.hid ho
              have HGr := Lib.hid hb
              have HBxr := Lib.hid (HBx.out.below hb (by omega))
              have HWr := Lib.hid (HB0.out.trans (hb.mono (show w.heap.size ≤ w0.heap.size by omega)))
              have c66 := HC66.out _ HBxr.out
              have hqr : w0.heap.size ≤ wr.heap.size := hb.size
              by_cases hlt : k < n
              · have hlt' : (k : Int) < (n : Int) := by omega
                obtain ⟨t, ht⟩ : ∃ t, x.props[k]? = some t := ⟨x.props[k]'(by rw [← HN.out]; omega), List.getElem?_eq_getElem _⟩
                have HT := Lib.hid ht
                have HRp := Lib.hid (fun (W : World) (hW : Below w.heap.size w W) => (HR.out W hW).props)
                obtain ⟨b, off, e1, hbb, hc1⟩ := (HRp.out _ HWr.out).elem ht
                have HC := Lib.hid (show ∀ W, Below w.heap.size w W → W.rangeAt b (off + k * 263) t.cells from fun W hW => by
                  obtain ⟨b', off', e', -, hc'⟩ := (HRp.out _ hW).elem ht
                  rw [e1] at e'
                  cases e'
                  exact hc')
                have HEl := Lib.hid (show ∀ W, Below w.heap.size w W → ElP W B' t from fun W hW => (HRp.out _ hW).el t (List.mem_of_getElem? ht))
                have hel := HEl.out _ HWr.out
                have HLen := Lib.hid (propC_len hel.ok t.A t.c)
                have hsk : propsBad (x.props.take (k + 1)) = propBad t.x := by rw [propsBad_succ x.props k t ht, HSb.out]; rfl
                have HSk := Lib.hid hsk
                have hul := hel.uml
                have HAp := Lib.hid e1
                rw [e1] at c66
                have HGd := Lib.hid (fun (W : World) (hW : Below w.heap.size w W) => propGood_any t.x hel.ok (c := t.c) (HEl.out _ hW).um (show B' ≤ W.heap.size by have := hW.size; omega))
                have HPr := Lib.hid (fun (W : World) (hW : Below w.heap.size w W) (hg : propBad t.x = false) => refProposal_any t.x hel.ok (c := t.c) (HEl.out _ hW).um (show B' ≤ W.heap.size by have := hW.size; omega) hul hg)
                have HPbl := Lib.hid (propB_len hel.ok hul)
                have hkl : (propsB (x.props.take k)).length ≤ 255 * 700 := by
                  have h := propsB_len (ss := x.props.take k) (fun s hs => ⟨((HRp.out _ HWr.out).el s (List.mem_of_mem_take hs)).ok, ((HRp.out _ HWr.out).el s (List.mem_of_mem_take hs)).uml⟩)
                  rw [List.length_take] at h
                  exact Nat.le_trans h (Nat.mul_le_mul_right _ (by omega))
                have HOl := Lib.hid (show (hd ++ propsB (x.props.take k)).length ≤ 200000 by rw [List.length_append, HHl.out]; omega)
                obtain ⟨tb, htb⟩ : ∃ tb, tb = propBad t.x := ⟨_, rfl⟩
                rw [← htb] at HGd HPr HSk
                clear hsb ho hb ht hc1 hel hsk hkl e1 htb
                obtain ⟨bl, hbl⟩ : ∃ l, l = (propB t.x).length := ⟨_, rfl⟩
                have HBl := Lib.hid hbl
                have hbl7 : bl ≤ 700 := by rw [hbl]; exact HPbl.out
                clear hbl
                go_wp2_with (refine wpList_load_midw (by first | rfl | go_simp) 71 (.tmp 50) rfl b (off + k * 263) rfl t.cells _ (HC.out _ HWr.out) Try.underlying71 rfl (by show _ = some (propC t.x t.A t.c).length; rw [HLen.out]; exact infoProp) ?_)
                refine (HGd.out _ HWr.out).mono ?_
                rintro e w4 ⟨rfl, hb4⟩
                have HW4 := Lib.hid (HWr.out.trans (hb4.mono HWr.out.size))
                have HG4 := Lib.hid (HGr.out.trans (hb4.mono hqr))
                have HO4 := Lib.hid (HOr.out.below hb4 (Nat.le_refl _))
                have c66 := HC66.out _ (HBx.out.below HG4.out (by omega))
                rw [HAp.out] at c66
                have hq4 := HG4.out.size
                clear hb4
                cases tb with
                | true =>
                  go_wp2_with fail
                  go_ret2
                  exact ⟨_, rfl, Own.nil_ _ _ _ _, HW4.out⟩
                | false =>
                  go_wp2_with (refine wpList_load_midw (by first | rfl | go_simp) 71 (.tmp 58) rfl b (off + k * 263) rfl t.cells _ (HC.out _ HW4.out) Try.underlying71 rfl (by show _ = some (propC t.x t.A t.c).length; rw [HLen.out]; exact infoProp) ?_)
                  refine (HPr.out _ HW4.out (by trivial)).mono ?_
                  rintro e w5 ⟨v5, rfl, ho5, hb5⟩
                  obtain ⟨A5, c5, rfl, hr5, -, -, -⟩ := ho5.shape' HBl.out.symm
                  have HR5 := Lib.hid hr5
                  have HO5 := Lib.hid (HO4.out.below hb5 (Nat.le_refl _))
                  have HG5 := Lib.hid (HG4.out.trans (hb5.mono hq4))
                  have hq5 := HG5.out.size
                  clear ho5 hr5 hb5
                  go_wp2_with (at_builtin; refine wpList_append_rd rfl (.tmp 54) (.tmp 60) 24 rfl b8_one w0.heap.size 5 i0 _ 1 Try.underlying24 hi0 hz0 hz1 hz2 rfl _ _ rfl HO5.out w5.heap.size A5 bl c5 (propB t.x) rfl HBl.out HR5.out (by rw [← HBl.out]; have := HOl.out; simp only [maxLen]; omega) (by rw [← HBl.out]; have := HOl.out; omega) (by omega) ?_; intro v7 w7 hown7 hg7 hbb7; have HO7 := Lib.hid hown7; have HG7 := Lib.hid (hbb7 _ _ (Nat.le_refl _) HG5.out); clear hown7 hg7 hbb7)
                  exact ⟨⟨k + 1, by omega, by congr 1, HSk.out, HO7.out.cast (by rw [propsB_succ x.props k t HT.out, List.append_assoc]), HG7.out⟩, by show n - ((k : Int) + 1).toNat < n - (k : Int).toNat; omega⟩
              · obtain rfl : k = n := by omega
                have e9 : x.props.take k = x.props := List.take_of_length_le (by rw [HN.out]; exact Nat.le_refl _)
                rw [e9] at HSb HOr
                clear hb ho hsb e9
                exact absurd (HSb.out.symm.trans HQB.out.symm) (by simp)
          · skip
            obtain ⟨hd, hhd⟩ : ∃ hd, hd = groupB x.grp (E : Int) (F : Int) ++ x.base ++ [beAt (n : Int) 0] := ⟨_, rfl⟩
            have hhl : hd.length = 70 := by rw [hhd]; simp only [List.length_append, List.length_singleton, groupB_len, HX.out.grp, HX.out.base]
            have ho3 := HO3.out
            rw [← hhd] at ho3
            have HO3 := Lib.hid ho3
            have HHd := Lib.hid hhd
            have HHl := Lib.hid hhl
            clear ho3 hhd hhl c32 c33 c66 ck hf
            go_wp2_with fail
            go_loopw [4, 5] (fun rv iv wr => ∃ k : Nat, k ≤ n ∧ iv = .int .i64 (k : Int) ∧ propsBad (x.props.take k) = false ∧ Own b8 wr w0.heap.size 5 rv (hd ++ propsB (x.props.take k)) ∧ Below w0.heap.size w0 wr) (fun _ iv _ => n - (intOf iv).toNat)
            case atStart => exact ⟨0, by omega, rfl, rfl, HO3.out.cast (by simp [propsB]), HG3.out⟩
            case round =>
              obtain ⟨k, hk, rfl, hsb, ho, hb⟩ := hrel
              have HSb := Lib.hid hsb
              have HOr := Lib.hid ho
              have HGr := Lib.hid hb
              have HBxr := Lib.hid (HBx.out.below hb (by omega))
              have HWr := Lib.hid (HB0.out.trans (hb.mono (show w.heap.size ≤ w0.heap.size by omega)))
              have c66 := HC66.out _ HBxr.out
              have hqr : w0.heap.size ≤ wr.heap.size := hb.size
              by_cases hlt : k < n
              · have hlt' : (k : Int) < (n : Int) := by omega
                obtain ⟨t, ht⟩ : ∃ t, x.props[k]? = some t := ⟨x.props[k]'(by rw [← HN.out]; omega), List.getElem?_eq_getElem _⟩
                have HT := Lib.hid ht
                have HRp := Lib.hid (fun (W : World) (hW : Below w.heap.size w W) => (HR.out W hW).props)
                obtain ⟨b, off, e1, hbb, hc1⟩ := (HRp.out _ HWr.out).elem ht
                have HC := Lib.hid (show ∀ W, Below w.heap.size w W → W.rangeAt b (off + k * 263) t.cells from fun W hW => by
                  obtain ⟨b', off', e', -, hc'⟩ := (HRp.out _ hW).elem ht
                  rw [e1] at e'
                  cases e'
                  exact hc')
                have HEl := Lib.hid (show ∀ W, Below w.heap.size w W → ElP W B' t from fun W hW => (HRp.out _ hW).el t (List.mem_of_getElem? ht))
                have hel := HEl.out _ HWr.out
                have HLen := Lib.hid (propC_len hel.ok t.A t.c)
                have hsk : propsBad (x.props.take (k + 1)) = propBad t.x := by rw [propsBad_succ x.props k t ht, HSb.out]; rfl
                have HSk := Lib.hid hsk
                have hul := hel.uml
                have HAp := Lib.hid e1
                rw [e1] at c66
                have HGd := Lib.hid (fun (W : World) (hW : Below w.heap.size w W) => propGood_any t.x hel.ok (c := t.c) (HEl.out _ hW).um (show B' ≤ W.heap.size by have := hW.size; omega))
                have HPr := Lib.hid (fun (W : World) (hW : Below w.heap.size w W) (hg : propBad t.x = false) => refProposal_any t.x hel.ok (c := t.c) (HEl.out _ hW).um (show B' ≤ W.heap.size by have := hW.size; omega) hul hg)
                have HPbl := Lib.hid (propB_len hel.ok hul)
                have hkl : (propsB (x.props.take k)).length ≤ 255 * 700 := by
                  have h := propsB_len (ss := x.props.take k) (fun s hs => ⟨((HRp.out _ HWr.out).el s (List.mem_of_mem_take hs)).ok, ((HRp.out _ HWr.out).el s (List.mem_of_mem_take hs)).uml⟩)
                  rw [List.length_take] at h
                  exact Nat.le_trans h (Nat.mul_le_mul_right _ (by omega))
                have HOl := Lib.hid (show (hd ++ propsB (x.props.take k)).length ≤ 200000 by rw [List.length_append, HHl.out]; omega)
                obtain ⟨tb, htb⟩ : ∃ tb, tb = propBad t.x := ⟨_, rfl⟩
                rw [← htb] at HGd HPr HSk
                clear hsb ho hb ht hc1 hel hsk hkl e1 htb
                obtain ⟨bl, hbl⟩ : ∃ l, l = (propB t.x).length := ⟨_, rfl⟩
                have HBl := Lib.hid hbl
                have hbl7 : bl ≤ 700 := by rw [hbl]; exact HPbl.out
                clear hbl
                go_wp2_with (refine wpList_load_midw (by first | rfl | go_simp) 71 (.tmp 50) rfl b (off + k * 263) rfl t.cells _ (HC.out _ HWr.out) Try.underlying71 rfl (by show _ = some (propC t.x t.A t.c).length; rw [HLen.out]; exact infoProp) ?_)
                refine (HGd.out _ HWr.out).mono ?_
                rintro e w4 ⟨rfl, hb4⟩
                have HW4 := Lib.hid (HWr.out.trans (hb4.mono HWr.out.size))
                have HG4 := Lib.hid (HGr.out.trans (hb4.mono hqr))
                have HO4 := Lib.hid (HOr.out.below hb4 (Nat.le_refl _))
                have c66 := HC66.out _ (HBx.out.below HG4.out (by omega))
                rw [HAp.out] at c66
                have hq4 := HG4.out.size
                clear hb4
                cases tb with
                | true =>
                  go_wp2_with fail
                  go_ret2
                  exact ⟨_, rfl, Own.nil_ _ _ _ _, HW4.out⟩
                | false =>
                  go_wp2_with (refine wpList_load_midw (by first | rfl | go_simp) 71 (.tmp 58) rfl b (off + k * 263) rfl t.cells _ (HC.out _ HW4.out) Try.underlying71 rfl (by show _ = some (propC t.x t.A t.c).length; rw [HLen.out]; exact infoProp) ?_)
                  refine (HPr.out _ HW4.out (by trivial)).mono ?_
                  rintro e w5 ⟨v5, rfl, ho5, hb5⟩
                  obtain ⟨A5, c5, rfl, hr5, -, -, -⟩ := ho5.shape' HBl.out.symm
                  have HR5 := Lib.hid hr5
                  have HO5 := Lib.hid (HO4.out.below hb5 (Nat.le_refl _))
                  have HG5 := Lib.hid (HG4.out.trans (hb5.mono hq4))
                  have hq5 := HG5.out.size
                  clear ho5 hr5 hb5
                  go_wp2_with (at_builtin; refine wpList_append_rd rfl (.tmp 54) (.tmp 60) 24 rfl b8_one w0.heap.size 5 i0 _ 1 Try.underlying24 hi0 hz0 hz1 hz2 rfl _ _ rfl HO5.out w5.heap.size A5 bl c5 (propB t.x) rfl HBl.out HR5.out (by rw [← HBl.out]; have := HOl.out; simp only [maxLen]; omega) (by rw [← HBl.out]; have := HOl.out; omega) (by omega) ?_; intro v7 w7 hown7 hg7 hbb7; have HO7 := Lib.hid hown7; have HG7 := Lib.hid (hbb7 _ _ (Nat.le_refl _) HG5.out); clear hown7 hg7 hbb7)
                  exact ⟨⟨k + 1, by omega, by congr 1, HSk.out, HO7.out.cast (by rw [propsB_succ x.props k t HT.out, List.append_assoc]), HG7.out⟩, by show n - ((k : Int) + 1).toNat < n - (k : Int).toNat; omega⟩
              · obtain rfl : k = n := by omega
                have e9 : x.props.take k = x.props := List.take_of_length_le (by rw [HN.out]; exact Nat.le_refl _)
                rw [e9] at HSb HOr
                clear hb ho hsb e9
                exact absurd (HSb.out.symm.trans HQB.out.symm) (by simp)
        | false =>
          go_enter Try.func37, Try.ntmps37
          go_wp2_with fail
          generalize World.alloc w _ = wz at HBz HBz0 hs0 c32 c33 c66 ⊢
          have hsz0 : w.heap.size + 1 ≤ wz.heap.size := by omega
          clear hs0
          refine (HH.out _).mono ?_
          rintro e w' ⟨rfl, rfl⟩
          go_wp2_with (refine wpList_load_midw (by first | rfl | go_simp) 80 (.tmp 19) rfl w.heap.size 67 rfl x.path.cells _ (commC_path HBz.out HX.out) Try.underlying80 rfl (by rw [pathC_len HX.out.leaf]; exact infoPath) ?_)
          refine (HPg.out _ HBz0.out).mono ?_
          rintro e w0 ⟨rfl, hb1⟩
          have HBx := Lib.hid (HBz.out.below hb1 (by omega))
          have HB0 := Lib.hid (HBz0.out.trans (hb1.mono (by omega)))
          have hsw : w.heap.size + 1 ≤ w0.heap.size := HBx.out.lt
          clear hb1 c32 c33 c66 HBz HBz0
          have c32 := (commC_ep HBx.out HX.out).trans (by rw [HE.out])
          have c33 := (commC_frm HBx.out HX.out).trans (by rw [HF.out])
          have c66 := HC66.out _ HBx.out
          have ck := commC_grp HBx.out
          go_wp2_with fail
          clear hn2
          go_region_held3 (fun w' => w'.cell? ⟨w.heap.size, 32, none⟩ = some (.int .i64 (E : Int)) ∧ w'.cell? ⟨w.heap.size, 33, none⟩ = some (.int .i64 (F : Int)) ∧ w'.cell? ⟨w.heap.size, 66, none⟩ = some (.slice x.Ap n x.cp) ∧ w'.rangeAt w.heap.size 0 (x.grp.map b8))
            (first
              | exact ⟨(commC_ep HBx3.out HX.out).trans (by rw [HE.out]), (commC_frm HBx3.out HX.out).trans (by rw [HF.out]), HC66.out _ (HBx3.out), commC_grp HBx3.out⟩
              | exact ⟨(commC_ep HBx2.out HX.out).trans (by rw [HE.out]), (commC_frm HBx2.out HX.out).trans (by rw [HF.out]), HC66.out _ (HBx2.out), commC_grp HBx2.out⟩
              | exact ⟨(commC_ep HBx1.out HX.out).trans (by rw [HE.out]), (commC_frm HBx1.out HX.out).trans (by rw [HF.out]), HC66.out _ (HBx1.out), commC_grp HBx1.out⟩
              | exact ⟨(commC_ep (HBx2.out.alloc _) HX.out).trans (by rw [HE.out]), (commC_frm (HBx2.out.alloc _) HX.out).trans (by rw [HF.out]), HC66.out _ (HBx2.out.alloc _), commC_grp (HBx2.out.alloc _)⟩
              | exact ⟨(commC_ep (HBx1.out.alloc _) HX.out).trans (by rw [HE.out]), (commC_frm (HBx1.out.alloc _) HX.out).trans (by rw [HF.out]), HC66.out _ (HBx1.out.alloc _), commC_grp (HBx1.out.alloc _)⟩
              | exact ⟨(commC_ep ((HBx.out.alloc _).drew) HX.out).trans (by rw [HE.out]), (commC_frm ((HBx.out.alloc _).drew) HX.out).trans (by rw [HF.out]), HC66.out _ ((HBx.out.alloc _).drew), commC_grp ((HBx.out.alloc _).drew)⟩
              | go_keep)
            (first
              | (go_simp; go_at_call 56; refine (HHd.out w0.drew).mono ?_; rintro e w1 ⟨v1, rfl, ho1, hb1⟩; have HO1 := Lib.hid (show Own b8 w1 w0.heap.size 5 v1 _ from ho1); have HG1 := Lib.hid (show Below w0.heap.size w0 w1 from (Below.refl w0.heap.size w0).drew.trans hb1); have HBx1 := Lib.hid (HBx.out.below HG1.out (by omega)); have hq1 : w0.heap.size ≤ w1.heap.size := HG1.out.size; clear ho1 hb1)
              | (go_simp; go_at_call 56; refine (HHd.out (w0.alloc (.cells #[.int .u8 (bv (beAt (n : Int) 0))] 5)).drew).mono ?_; rintro e w1 ⟨v1, rfl, ho1, hb1⟩; have hsA : w0.heap.size + 1 ≤ (w0.alloc (.cells #[.int .u8 (bv (beAt (n : Int) 0))] 5)).drew.heap.size := (by show w0.heap.size + 1 ≤ (w0.alloc (.cells #[.int .u8 (bv (beAt (n : Int) 0))] 5)).heap.size; simp); have HO1 := Lib.hid (ho1.less (show w0.heap.size ≤ (w0.alloc (.cells #[.int .u8 (bv (beAt (n : Int) 0))] 5)).drew.heap.size by omega)); have HLn := Lib.hid (show v1.ownBlock ≠ some w0.heap.size from fun e => by have := (ho1.lt _ e).1; omega); have HRL := Lib.hid (((Rd.new b8 w0 5 [beAt (n : Int) 0]).below (Below.refl _ _).drew).below (hb1.mono hsA)); have HG1 := Lib.hid (show Below w0.heap.size w0 w1 from ((Below.refl w0.heap.size w0).alloc (Nat.le_refl _) (.cells #[.int .u8 (bv (beAt (n : Int) 0))] 5)).drew.trans (hb1.mono (by omega))); have HBx1 := Lib.hid (HBx.out.below HG1.out (by omega)); have hq1 : w0.heap.size + 1 ≤ w1.heap.size := Nat.le_trans hsA hb1.size; clear ho1 hb1 hsA)
              | (refine step_append_rd rfl (.tmp 30) (.tmp 32) 24 rfl b8_one w0.heap.size 5 i0 _ 1 Try.underlying24 hi0 hz0 hz1 hz2 rfl _ _ rfl HO1.out (w.heap.size + 1) _ 32 32 x.base rfl HX.out.base.symm (rd_of_range (commC_base HBx1.out HX.out)) (by simp only [groupB_len, HX.out.grp, HX.out.base, maxLen]; omega) (by simp only [groupB_len, HX.out.grp, HX.out.base]; omega) (by omega) ?_; intro v2 w2 hown2 hg2 hbb2; have HO2 := Lib.hid hown2; have HG2 := Lib.hid (hbb2 _ _ (Nat.le_refl _) HG1.out); have HBx2 := Lib.hid (HBx.out.below HG2.out (by omega)); have hq2 : w0.heap.size ≤ w2.heap.size := HG2.out.size; (first | (have HRL2 := Lib.hid (rd_far HRL.out hg2.by_ (by omega) HLn.out)) | skip); clear hown2 hg2 hbb2)
              | (refine step_append_rd rfl (.tmp 30) (.tmp 32) 24 rfl b8_one w0.heap.size 5 i0 _ 1 Try.underlying24 hi0 hz0 hz1 hz2 rfl _ _ rfl (HO1.out.alloc (.cells #[.int .u8 (bv (beAt (n : Int) 0))] 5)) (w.heap.size + 1) _ 32 32 x.base rfl HX.out.base.symm (rd_of_range (commC_base (HBx1.out.alloc _) HX.out)) (by simp only [groupB_len, HX.out.grp, HX.out.base, maxLen]; omega) (by simp only [groupB_len, HX.out.grp, HX.out.base]; omega) (by rw [World.size_alloc]; omega) ?_; intro v2 w2 hown2 hg2 hbb2; have HO2 := Lib.hid hown2; have HG2 := Lib.hid (hbb2 _ _ (Nat.le_refl _) (HG1.out.alloc (by omega) (.cells #[.int .u8 (bv (beAt (n : Int) 0))] 5))); have HBx2 := Lib.hid (HBx.out.below HG2.out (by omega)); have hq2 : w0.heap.size ≤ w2.heap.size := HG2.out.size; have HRL2 := Lib.hid (rd_far (Rd.new b8 w1 5 [beAt (n : Int) 0]) hg2.by_ (by rw [World.size_alloc]; omega) (fun e => by have := HO1.out.lt _ e; omega)); clear hown2 hg2 hbb2)
              | (refine step_append_rd rfl (.tmp 33) (.tmp 38) 24 rfl b8_one w0.heap.size 5 i0 _ 1 Try.underlying24 hi0 hz0 hz1 hz2 rfl _ _ rfl HO2.out _ _ 1 1 [beAt (n : Int) 0] rfl rfl HRL2.out (by simp only [List.length_append, List.length_singleton, groupB_len, HX.out.grp, HX.out.base, maxLen]; omega) (by simp only [List.length_append, List.length_singleton, groupB_len, HX.out.grp, HX.out.base]; omega) (by omega) ?_; intro v3 w3 hown3 hg3 hbb3; obtain ⟨A3, c3, rfl, -, -, -, -⟩ := hown3.shape' (n := 70) (by simp only [List.length_append, List.length_singleton, groupB_len, HX.out.grp, HX.out.base]); have HO3 := Lib.hid hown3; have HG3 := Lib.hid (hbb3 _ _ (Nat.le_refl _) HG2.out); have HBx3 := Lib.hid (HBx.out.below HG3.out (by omega)); clear hown3 hg3 hbb3)
              | (refine step_append_rd rfl (.tmp 33) (.tmp 38) 24 rfl b8_one w0.heap.size 5 i0 _ 1 Try.underlying24 hi0 hz0 hz1 hz2 rfl _ _ rfl (HO2.out.alloc (.cells #[.int .u8 (bv (beAt (n : Int) 0))] 5)) (w2.heap.size + 1) _ 1 1 [beAt (n : Int) 0] rfl rfl (Rd.new b8 w2 5 [beAt (n : Int) 0]) (by simp only [List.length_append, List.length_singleton, groupB_len, HX.out.grp, HX.out.base, maxLen]; omega) (by simp only [List.length_append, List.length_singleton, groupB_len, HX.out.grp, HX.out.base]; omega) (by rw [World.size_alloc]; omega) ?_; intro v3 w3 hown3 hg3 hbb3; obtain ⟨A3, c3, rfl, -, -, -, -⟩ := hown3.shape' (n := 70) (by simp only [List.length_append, List.length_singleton, groupB_len, HX.out.grp, HX.out.base]); have HO3 := Lib.hid hown3; have HG3 := Lib.hid (hbb3 _ _ (Nat.le_refl _) (HG2.out.alloc (by omega) (.cells #[.int .u8 (bv (beAt (n : Int) 0))] 5))); have HBx3 := Lib.hid (HBx.out.below HG3.out (by omega)); clear hown3 hg3 hbb3))
          · skip
            obtain ⟨hd, hhd⟩ : ∃ hd, hd = groupB x.grp (E : Int) (F : Int) ++ x.base ++ [beAt (n : Int) 0] := ⟨_, rfl⟩
            have hhl : hd.length = 70 := by rw [hhd]; simp only [List.length_append, List.length_singleton, groupB_len, HX.out.grp, HX.out.base]
            have ho3 := HO3.out
            rw [← hhd] at ho3
            have HO3 := Lib.hid ho3
            have HHd := Lib.hid hhd
            have HHl := Lib.hid hhl
            clear ho3 hhd hhl c32 c33 c66 ck hf
            go_wp2_with fail
            go_loopw [4, 5] (fun rv iv wr => ∃ k : Nat, k ≤ n ∧ iv = .int .i64 (k : Int) ∧ propsBad (x.props.take k) = false ∧ Own b8 wr w0.heap.size 5 rv (hd ++ propsB (x.props.take k)) ∧ Below w0.heap.size w0 wr) (fun _ iv _ => n - (intOf iv).toNat)
            case atStart => exact ⟨0, by omega, rfl, rfl, HO3.out.cast (by simp [propsB]), HG3.out⟩
            case round =>
              obtain ⟨k, hk, rfl, hsb, ho, hb⟩ := hrel
              have HSb := Lib.hid hsb
              have HOr := Lib.hid ho
              have HGr := Lib.hid hb
              have HBxr := Lib.hid (HBx.out.below hb (by omega))
              have HWr := Lib.hid (HB0.out.trans (hb.mono (show w.heap.size ≤ w0.heap.size by omega)))
              have c66 := HC66.out _ HBxr.out
              have hqr : w0.heap.size ≤ wr.heap.size := hb.size
              by_cases hlt : k < n
              · have hlt' : (k : Int) < (n : Int) := by omega
                obtain ⟨t, ht⟩ : ∃ t, x.props[k]? = some t := ⟨x.props[k]'(by rw [← HN.out]; omega), List.getElem?_eq_getElem _⟩
                have HT := Lib.hid ht
                have HRp := Lib.hid (fun (W : World) (hW : Below w.heap.size w W) => (HR.out W hW).props)
                obtain ⟨b, off, e1, hbb, hc1⟩ := (HRp.out _ HWr.out).elem ht
                have HC := Lib.hid (show ∀ W, Below w.heap.size w W → W.rangeAt b (off + k * 263) t.cells from fun W hW => by
                  obtain ⟨b', off', e', -, hc'⟩ := (HRp.out _ hW).elem ht
                  rw [e1] at e'
                  cases e'
                  exact hc')
                have HEl := Lib.hid (show ∀ W, Below w.heap.size w W → ElP W B' t from fun W hW => (HRp.out _ hW).el t (List.mem_of_getElem? ht))
                have hel := HEl.out _ HWr.out
                have HLen := Lib.hid (propC_len hel.ok t.A t.c)
                have hsk : propsBad (x.props.take (k + 1)) = propBad t.x := by rw [propsBad_succ x.props k t ht, HSb.out]; rfl
                have HSk := Lib.hid hsk
                have hul := hel.uml
                have HAp := Lib.hid e1
                rw [e1] at c66
                have HGd := Lib.hid (fun (W : World) (hW : Below w.heap.size w W) => propGood_any t.x hel.ok (c := t.c) (HEl.out _ hW).um (show B' ≤ W.heap.size by have := hW.size; omega))
                have HPr := Lib.hid (fun (W : World) (hW : Below w.heap.size w W) (hg : propBad t.x = false) => refProposal_any t.x hel.ok (c := t.c) (HEl.out _ hW).um (show B' ≤ W.heap.size by have := hW.size; omega) hul hg)
                have HPbl := Lib.hid (propB_len hel.ok hul)
                have hkl : (propsB (x.props.take k)).length ≤ 255 * 700 := by
                  have h := propsB_len (ss := x.props.take k) (fun s hs => ⟨((HRp.out _ HWr.out).el s (List.mem_of_mem_take hs)).ok, ((HRp.out _ HWr.out).el s (List.mem_of_mem_take hs)).uml⟩)
                  rw [List.length_take] at h
                  exact Nat.le_trans h (Nat.mul_le_mul_right _ (by omega))
                have HOl := Lib.hid (show (hd ++ propsB (x.props.take k)).length ≤ 200000 by rw [List.length_append, HHl.out]; omega)
                obtain ⟨tb, htb⟩ : ∃ tb, tb = propBad t.x := ⟨_, rfl⟩
                rw [← htb] at HGd HPr HSk
                clear hsb ho hb ht hc1 hel hsk hkl e1 htb
                obtain ⟨bl, hbl⟩ : ∃ l, l = (propB t.x).length := ⟨_, rfl⟩
                have HBl := Lib.hid hbl
                have hbl7 : bl ≤ 700 := by rw [hbl]; exact HPbl.out
                clear hbl
                go_wp2_with (refine wpList_load_midw (by first | rfl | go_simp) 71 (.tmp 50) rfl b (off + k * 263) rfl t.cells _ (HC.out _ HWr.out) Try.underlying71 rfl (by show _ = some (propC t.x t.A t.c).length; rw [HLen.out]; exact infoProp) ?_)
                refine (HGd.out _ HWr.out).mono ?_
                rintro e w4 ⟨rfl, hb4⟩
                have HW4 := Lib.hid (HWr.out.trans (hb4.mono HWr.out.size))
                have HG4 := Lib.hid (HGr.out.trans (hb4.mono hqr))
                have HO4 := Lib.hid (HOr.out.below hb4 (Nat.le_refl _))
                have c66 := HC66.out _ (HBx.out.below HG4.out (by omega))
                rw [HAp.out] at c66
                have hq4 := HG4.out.size
                clear hb4
                cases tb with
                | true =>
                  exact absurd ((propsBad_take x.props (k + 1) HSk.out).symm.trans HQB.out.symm) (by simp)
                | false =>
                  go_wp2_with (refine wpList_load_midw (by first | rfl | go_simp) 71 (.tmp 58) rfl b (off + k * 263) rfl t.cells _ (HC.out _ HW4.out) Try.underlying71 rfl (by show _ = some (propC t.x t.A t.c).length; rw [HLen.out]; exact infoProp) ?_)
                  refine (HPr.out _ HW4.out (by trivial)).mono ?_
                  rintro e w5 ⟨v5, rfl, ho5, hb5⟩
                  obtain ⟨A5, c5, rfl, hr5, -, -, -⟩ := ho5.shape' HBl.out.symm
                  have HR5 := Lib.hid hr5
                  have HO5 := Lib.hid (HO4.out.below hb5 (Nat.le_refl _))
                  have HG5 := Lib.hid (HG4.out.trans (hb5.mono hq4))
                  have hq5 := HG5.out.size
                  clear ho5 hr5 hb5
                  go_wp2_with (at_builtin; refine wpList_append_rd rfl (.tmp 54) (.tmp 60) 24 rfl b8_one w0.heap.size 5 i0 _ 1 Try.underlying24 hi0 hz0 hz1 hz2 rfl _ _ rfl HO5.out w5.heap.size A5 bl c5 (propB t.x) rfl HBl.out HR5.out (by rw [← HBl.out]; have := HOl.out; simp only [maxLen]; omega) (by rw [← HBl.out]; have := HOl.out; omega) (by omega) ?_; intro v7 w7 hown7 hg7 hbb7; have HO7 := Lib.hid hown7; have HG7 := Lib.hid (hbb7 _ _ (Nat.le_refl _) HG5.out); clear hown7 hg7 hbb7)
                  exact ⟨⟨k + 1, by omega, by congr 1, HSk.out, HO7.out.cast (by rw [propsB_succ x.props k t HT.out, List.append_assoc]), HG7.out⟩, by show n - ((k : Int) + 1).toNat < n - (k : Int).toNat; omega⟩
              · obtain rfl : k = n := by omega
                have e9 : x.props.take k = x.props := List.take_of_length_le (by rw [HN.out]; exact Nat.le_refl _)
                rw [e9] at HSb HOr
                clear hb ho hsb e9
                obtain ⟨pre, hpre⟩ : ∃ p, p = hd ++ propsB x.props := ⟨_, rfl⟩
                have ho8 := HOr.out
                rw [← hpre] at ho8
                have HO8 := Lib.hid ho8
                have hprel : pre.length ≤ 200000 := by
                  have h := propsB_len (ss := x.props) (fun s hs => ⟨(((HR.out _ HWr.out).props).el s hs).ok, (((HR.out _ HWr.out).props).el s hs).uml⟩)
                  have h2 : x.props.length * 700 ≤ 255 * 700 := Nat.mul_le_mul_right _ (by rw [← HN.out]; omega)
                  have h3 := Nat.le_trans h h2
                  rw [hpre, List.length_append, HHl.out]; omega
                have HPre := Lib.hid hpre
                have hpl := HPl.out (by trivial)
                have hhp := Try.underlying80
                have hip : (Try.prog.info? 80).map (·.size) = some x.path.cells.length := by rw [pathC_len HX.out.leaf]; exact infoPath
                obtain ⟨pl, hpl2⟩ : ∃ l, l = (pathB x.path).length := ⟨_, rfl⟩
                have HPL := Lib.hid hpl2
                rw [← hpl2] at hpl
                clear ho8 hpre hpl2
                obtain ⟨ln, hln⟩ : ∃ l, l = pre.length := ⟨_, rfl⟩
                have HLn := Lib.hid hln
                rw [← hln] at hprel
                obtain ⟨A8, c8, rfl, -, -, -, -⟩ := HO8.out.shape' hln.symm
                clear hln
                go_wp2_with fail
                have hS : wr.drew.rangeAt w.heap.size 67 x.path.cells := commC_path HBxr.out HX.out
                refine wp_region_Y (by kernel_rfl) (fun w' => w'.rangeAt w.heap.size 67 x.path.cells) 8 ?_
                refine wpAnyY_pure (i := 0) (v := .slice A8 ln c8) rfl (by kernel_rfl) (by kernel_rfl) (by kernel_rfl) (by kernel_rfl) (fun _ _ _ h => h) (Or.inl ⟨by rfl, ?_⟩) hS ?_
                · intro w' hw'
                  go_simp
                try simp only [Act.put, List.setIfInBounds_toArray, List.set_cons_zero, List.set_cons_succ]
                refine wpAnyY_pure (i := 1) (v := .pointer (some ⟨w.heap.size, 67, none⟩)) rfl (by kernel_rfl) (by kernel_rfl) (by kernel_rfl) (by kernel_rfl) (fun _ _ _ h => h) (Or.inl ⟨by rfl, ?_⟩) hS ?_
                · intro w' hw'
                  go_simp
                try simp only [Act.put, List.setIfInBounds_toArray, List.set_cons_zero, List.set_cons_succ]
                refine wpAnyY_take (i := 2) (v := .agg x.path.cells.toArray) rfl (by kernel_rfl) (by kernel_rfl) (by kernel_rfl) (by kernel_rfl) (by kernel_rfl) (fun _ _ _ h => h) (yieldsIf_load_mid (by rfl) 80 (.tmp 63) rfl w.heap.size 67 rfl x.path.cells _ (fun _ h => h) hhp rfl hip) hS ?_
                try simp only [Act.put, List.setIfInBounds_toArray, List.set_cons_zero, List.set_cons_succ]
                refine wpAnyY_pure (i := 5) (v := .pointer (some ⟨w.heap.size, 167, none⟩)) rfl (by kernel_rfl) (by kernel_rfl) (by kernel_rfl) (by kernel_rfl) (fun _ _ _ h => h) (Or.inl ⟨by rfl, ?_⟩) hS ?_
                · intro w' hw'
                  go_simp
                try simp only [Act.put, List.setIfInBounds_toArray, List.set_cons_zero, List.set_cons_succ]
                refine wpAnyY_pure (i := 6) (v := .slice (some ⟨w.heap.size, 167, none⟩) 32 32) rfl (by kernel_rfl) (by kernel_rfl) (by kernel_rfl) (by kernel_rfl) (fun _ _ _ h => h) (Or.inl ⟨by rfl, ?_⟩) hS ?_
                · intro w' hw'
                  go_simp
                try simp only [Act.put, List.setIfInBounds_toArray, List.set_cons_zero, List.set_cons_succ]
                refine wpAnyY_one (i := 3) (by kernel_rfl) rfl (fun K' hK => ?_)
                go_simp
                go_at_call 85
                refine (HPt.out _ HWr.out.drew (by trivial)).mono ?_
                rintro e w9 ⟨v9, rfl, ho9, hb9⟩
                obtain ⟨A9, c9, rfl, hr9, -, -, -⟩ := ho9.shape' HPL.out.symm
                have HR9 := Lib.hid hr9
                have HO9 := Lib.hid (HO8.out.drew.below hb9 (Nat.le_refl _))
                have HG9 := Lib.hid (HGr.out.drew.trans (hb9.mono (show w0.heap.size ≤ wr.heap.size from hqr)))
                have HBx9 := Lib.hid (HBx.out.below HG9.out (by omega))
                have hq9 := HG9.out.size
                clear ho9 hr9 hb9
                refine hK _ _ (fun _ => commC_path HBx9.out HX.out) ?_
                clear hK K'
                try simp only [Act.put, List.setIfInBounds_toArray, List.set_cons_zero, List.set_cons_succ]
                refine wpAnyY_one (i := 4) (by kernel_rfl) rfl (fun K' hK => ?_)
                refine step_append_rd rfl (.tmp 62) (.tmp 65) 24 rfl b8_one w0.heap.size 5 i0 _ 1 Try.underlying24 hi0 hz0 hz1 hz2 rfl _ _ rfl HO9.out w9.heap.size A9 pl c9 (pathB x.path) rfl HPL.out HR9.out (by rw [← HLn.out, ← HPL.out]; simp only [maxLen]; omega) (by rw [← HLn.out, ← HPL.out]; omega) (by omega) ?_
                intro v10 w10 hown10 hg10 hbb10
                have HO10 := Lib.hid hown10
                have HG10 := Lib.hid (hbb10 _ _ (Nat.le_refl _) HG9.out)
                have HBx10 := Lib.hid (HBx.out.below HG10.out (by omega))
                have hq10 := HG10.out.size
                clear hown10 hg10 hbb10
                refine hK _ _ (fun _ => commC_path HBx10.out HX.out) ?_
                clear hK K'
                try simp only [Act.put, List.setIfInBounds_toArray, List.set_cons_zero, List.set_cons_succ]
                refine wpAnyY_one (i := 7) (by kernel_rfl) rfl (fun K' hK => ?_)
                refine step_append_rd rfl (.tmp 66) (.tmp 68) 24 rfl b8_one w0.heap.size 5 i0 _ 1 Try.underlying24 hi0 hz0 hz1 hz2 rfl _ _ rfl HO10.out (w.heap.size + 1) _ 32 32 x.tag rfl HX.out.tag.symm (rd_of_range (commC_tag HBx10.out HX.out)) (by rw [List.length_append, ← HLn.out, ← HPL.out, HX.out.tag]; simp only [maxLen]; omega) (by rw [List.length_append, ← HLn.out, ← HPL.out, HX.out.tag]; omega) (by omega) ?_
                intro v11 w11 hown11 hg11 hbb11
                have HO11 := Lib.hid hown11
                have HG11 := Lib.hid (hbb11 _ _ (Nat.le_refl _) HG10.out)
                have HBx11 := Lib.hid (HBx.out.below HG11.out (by omega))
                have hq11 := HG11.out.size
                clear hown11 hg11 hbb11
                refine hK _ _ (fun _ => commC_path HBx11.out HX.out) ?_
                clear hK K'
                try simp only [Act.put, List.setIfInBounds_toArray, List.set_cons_zero, List.set_cons_succ]
                refine wpAnyY_one (i := 8) (by kernel_rfl) rfl (fun K' hK => ?_)
                go_simp
                refine hK _ _ (fun h => absurd rfl h) (wpAnyY_done (by kernel_rfl) ?_ _)
                clear hK K' hS
                obtain ⟨N, hN⟩ : ∃ N, N = (commB x).length := ⟨_, rfl⟩
                have HNl := Lib.hid (show (pre ++ pathB x.path ++ x.tag ++ x.sig).length = N by
                  rw [hN, HPre.out, HHd.out]; unfold commB; rw [HE.out, HF.out, ← HN.out]
                  simp only [List.length_append, List.length_singleton, be_len]; omega)
                have HCe := Lib.hid (show pre ++ pathB x.path ++ x.tag ++ x.sig = commB x by
                  rw [HPre.out, HHd.out]; unfold commB; rw [HE.out, HF.out, ← HN.out]
                  simp only [List.append_assoc]; rfl)
                have HNc := Lib.hid hN
                clear hN
                go_wp2_with (at_builtin; refine wpList_append_rd rfl (.tmp 70) (.tmp 72) 24 rfl b8_one w0.heap.size 5 i0 _ 1 Try.underlying24 hi0 hz0 hz1 hz2 rfl _ _ rfl HO11.out (w.heap.size + 1) _ 64 64 x.sig rfl HX.out.sig.symm (rd_of_range (commC_sig HBx11.out HX.out)) (by rw [List.length_append, List.length_append, ← HLn.out, ← HPL.out, HX.out.tag, HX.out.sig]; simp only [maxLen]; omega) (by rw [List.length_append, List.length_append, ← HLn.out, ← HPL.out, HX.out.tag, HX.out.sig]; omega) (by omega) ?_; intro v12 w12 hown12 hg12 hbb12; obtain ⟨A12, c12, rfl, -, -, -, -⟩ := hown12.shape' HNl.out; have HO12 := Lib.hid hown12; have HG12 := Lib.hid (hbb12 _ _ (Nat.le_refl _) HG11.out); clear hown12 hg12 hbb12)
                have HBe := Lib.hid (HB0.out.trans (HG12.out.mono (show w.heap.size ≤ w0.heap.size by omega)))
                cases bg with
                | true =>
                  have hbig : 65536 < N := by have h := HBg.out; rw [← HNc.out] at h; simpa using h.symm
                  refine (fits_big A12 N c12 w12 hbig).mono ?_
                  rintro e w13 ⟨rfl, rfl⟩
                  go_wp2_with fail
                  go_ret2
                  exact ⟨_, rfl, Own.nil_ _ _ _ _, HBe.out⟩
                | false =>
                  have hbig : ¬ 65536 < N := by have h := HBg.out; rw [← HNc.out] at h; simpa using h.symm
                  refine (fits_ok A12 N c12 w12 hbig).mono ?_
                  rintro e w13 ⟨rfl, rfl⟩
                  go_wp2_with fail
                  go_ret2
                  exact ⟨_, rfl, (HO12.out.less (show w.heap.size ≤ w0.heap.size by omega)).cast HCe.out, HBe.out⟩
          · skip
            obtain ⟨hd, hhd⟩ : ∃ hd, hd = groupB x.grp (E : Int) (F : Int) ++ x.base ++ [beAt (n : Int) 0] := ⟨_, rfl⟩
            have hhl : hd.length = 70 := by rw [hhd]; simp only [List.length_append, List.length_singleton, groupB_len, HX.out.grp, HX.out.base]
            have ho3 := HO3.out
            rw [← hhd] at ho3
            have HO3 := Lib.hid ho3
            have HHd := Lib.hid hhd
            have HHl := Lib.hid hhl
            clear ho3 hhd hhl c32 c33 c66 ck hf
            go_wp2_with fail
            go_loopw [4, 5] (fun rv iv wr => ∃ k : Nat, k ≤ n ∧ iv = .int .i64 (k : Int) ∧ propsBad (x.props.take k) = false ∧ Own b8 wr w0.heap.size 5 rv (hd ++ propsB (x.props.take k)) ∧ Below w0.heap.size w0 wr) (fun _ iv _ => n - (intOf iv).toNat)
            case atStart => exact ⟨0, by omega, rfl, rfl, HO3.out.cast (by simp [propsB]), HG3.out⟩
            case round =>
              obtain ⟨k, hk, rfl, hsb, ho, hb⟩ := hrel
              have HSb := Lib.hid hsb
              have HOr := Lib.hid ho
              have HGr := Lib.hid hb
              have HBxr := Lib.hid (HBx.out.below hb (by omega))
              have HWr := Lib.hid (HB0.out.trans (hb.mono (show w.heap.size ≤ w0.heap.size by omega)))
              have c66 := HC66.out _ HBxr.out
              have hqr : w0.heap.size ≤ wr.heap.size := hb.size
              by_cases hlt : k < n
              · have hlt' : (k : Int) < (n : Int) := by omega
                obtain ⟨t, ht⟩ : ∃ t, x.props[k]? = some t := ⟨x.props[k]'(by rw [← HN.out]; omega), List.getElem?_eq_getElem _⟩
                have HT := Lib.hid ht
                have HRp := Lib.hid (fun (W : World) (hW : Below w.heap.size w W) => (HR.out W hW).props)
                obtain ⟨b, off, e1, hbb, hc1⟩ := (HRp.out _ HWr.out).elem ht
                have HC := Lib.hid (show ∀ W, Below w.heap.size w W → W.rangeAt b (off + k * 263) t.cells from fun W hW => by
                  obtain ⟨b', off', e', -, hc'⟩ := (HRp.out _ hW).elem ht
                  rw [e1] at e'
                  cases e'
                  exact hc')
                have HEl := Lib.hid (show ∀ W, Below w.heap.size w W → ElP W B' t from fun W hW => (HRp.out _ hW).el t (List.mem_of_getElem? ht))
                have hel := HEl.out _ HWr.out
                have HLen := Lib.hid (propC_len hel.ok t.A t.c)
                have hsk : propsBad (x.props.take (k + 1)) = propBad t.x := by rw [propsBad_succ x.props k t ht, HSb.out]; rfl
                have HSk := Lib.hid hsk
                have hul := hel.uml
                have HAp := Lib.hid e1
                rw [e1] at c66
                have HGd := Lib.hid (fun (W : World) (hW : Below w.heap.size w W) => propGood_any t.x hel.ok (c := t.c) (HEl.out _ hW).um (show B' ≤ W.heap.size by have := hW.size; omega))
                have HPr := Lib.hid (fun (W : World) (hW : Below w.heap.size w W) (hg : propBad t.x = false) => refProposal_any t.x hel.ok (c := t.c) (HEl.out _ hW).um (show B' ≤ W.heap.size by have := hW.size; omega) hul hg)
                have HPbl := Lib.hid (propB_len hel.ok hul)
                have hkl : (propsB (x.props.take k)).length ≤ 255 * 700 := by
                  have h := propsB_len (ss := x.props.take k) (fun s hs => ⟨((HRp.out _ HWr.out).el s (List.mem_of_mem_take hs)).ok, ((HRp.out _ HWr.out).el s (List.mem_of_mem_take hs)).uml⟩)
                  rw [List.length_take] at h
                  exact Nat.le_trans h (Nat.mul_le_mul_right _ (by omega))
                have HOl := Lib.hid (show (hd ++ propsB (x.props.take k)).length ≤ 200000 by rw [List.length_append, HHl.out]; omega)
                obtain ⟨tb, htb⟩ : ∃ tb, tb = propBad t.x := ⟨_, rfl⟩
                rw [← htb] at HGd HPr HSk
                clear hsb ho hb ht hc1 hel hsk hkl e1 htb
                obtain ⟨bl, hbl⟩ : ∃ l, l = (propB t.x).length := ⟨_, rfl⟩
                have HBl := Lib.hid hbl
                have hbl7 : bl ≤ 700 := by rw [hbl]; exact HPbl.out
                clear hbl
                go_wp2_with (refine wpList_load_midw (by first | rfl | go_simp) 71 (.tmp 50) rfl b (off + k * 263) rfl t.cells _ (HC.out _ HWr.out) Try.underlying71 rfl (by show _ = some (propC t.x t.A t.c).length; rw [HLen.out]; exact infoProp) ?_)
                refine (HGd.out _ HWr.out).mono ?_
                rintro e w4 ⟨rfl, hb4⟩
                have HW4 := Lib.hid (HWr.out.trans (hb4.mono HWr.out.size))
                have HG4 := Lib.hid (HGr.out.trans (hb4.mono hqr))
                have HO4 := Lib.hid (HOr.out.below hb4 (Nat.le_refl _))
                have c66 := HC66.out _ (HBx.out.below HG4.out (by omega))
                rw [HAp.out] at c66
                have hq4 := HG4.out.size
                clear hb4
                cases tb with
                | true =>
                  exact absurd ((propsBad_take x.props (k + 1) HSk.out).symm.trans HQB.out.symm) (by simp)
                | false =>
                  go_wp2_with (refine wpList_load_midw (by first | rfl | go_simp) 71 (.tmp 58) rfl b (off + k * 263) rfl t.cells _ (HC.out _ HW4.out) Try.underlying71 rfl (by show _ = some (propC t.x t.A t.c).length; rw [HLen.out]; exact infoProp) ?_)
                  refine (HPr.out _ HW4.out (by trivial)).mono ?_
                  rintro e w5 ⟨v5, rfl, ho5, hb5⟩
                  obtain ⟨A5, c5, rfl, hr5, -, -, -⟩ := ho5.shape' HBl.out.symm
                  have HR5 := Lib.hid hr5
                  have HO5 := Lib.hid (HO4.out.below hb5 (Nat.le_refl _))
                  have HG5 := Lib.hid (HG4.out.trans (hb5.mono hq4))
                  have hq5 := HG5.out.size
                  clear ho5 hr5 hb5
                  go_wp2_with (at_builtin; refine wpList_append_rd rfl (.tmp 54) (.tmp 60) 24 rfl b8_one w0.heap.size 5 i0 _ 1 Try.underlying24 hi0 hz0 hz1 hz2 rfl _ _ rfl HO5.out w5.heap.size A5 bl c5 (propB t.x) rfl HBl.out HR5.out (by rw [← HBl.out]; have := HOl.out; simp only [maxLen]; omega) (by rw [← HBl.out]; have := HOl.out; omega) (by omega) ?_; intro v7 w7 hown7 hg7 hbb7; have HO7 := Lib.hid hown7; have HG7 := Lib.hid (hbb7 _ _ (Nat.le_refl _) HG5.out); clear hown7 hg7 hbb7)
                  exact ⟨⟨k + 1, by omega, by congr 1, HSk.out, HO7.out.cast (by rw [propsB_succ x.props k t HT.out, List.append_assoc]), HG7.out⟩, by show n - ((k : Int) + 1).toNat < n - (k : Int).toNat; omega⟩
              · obtain rfl : k = n := by omega
                have e9 : x.props.take k = x.props := List.take_of_length_le (by rw [HN.out]; exact Nat.le_refl _)
                rw [e9] at HSb HOr
                clear hb ho hsb e9
                obtain ⟨pre, hpre⟩ : ∃ p, p = hd ++ propsB x.props := ⟨_, rfl⟩
                have ho8 := HOr.out
                rw [← hpre] at ho8
                have HO8 := Lib.hid ho8
                have hprel : pre.length ≤ 200000 := by
                  have h := propsB_len (ss := x.props) (fun s hs => ⟨(((HR.out _ HWr.out).props).el s hs).ok, (((HR.out _ HWr.out).props).el s hs).uml⟩)
                  have h2 : x.props.length * 700 ≤ 255 * 700 := Nat.mul_le_mul_right _ (by rw [← HN.out]; omega)
                  have h3 := Nat.le_trans h h2
                  rw [hpre, List.length_append, HHl.out]; omega
                have HPre := Lib.hid hpre
                have hpl := HPl.out (by trivial)
                have hhp := Try.underlying80
                have hip : (Try.prog.info? 80).map (·.size) = some x.path.cells.length := by rw [pathC_len HX.out.leaf]; exact infoPath
                obtain ⟨pl, hpl2⟩ : ∃ l, l = (pathB x.path).length := ⟨_, rfl⟩
                have HPL := Lib.hid hpl2
                rw [← hpl2] at hpl
                clear ho8 hpre hpl2
                obtain ⟨ln, hln⟩ : ∃ l, l = pre.length := ⟨_, rfl⟩
                have HLn := Lib.hid hln
                rw [← hln] at hprel
                obtain ⟨A8, c8, rfl, -, -, -, -⟩ := HO8.out.shape' hln.symm
                clear hln
                go_wp2_with fail
                have hS : wr.drew.rangeAt w.heap.size 67 x.path.cells := commC_path HBxr.out HX.out
                refine wp_region_Y (by kernel_rfl) (fun w' => w'.rangeAt w.heap.size 67 x.path.cells) 8 ?_
                refine wpAnyY_pure (i := 0) (v := .slice A8 ln c8) rfl (by kernel_rfl) (by kernel_rfl) (by kernel_rfl) (by kernel_rfl) (fun _ _ _ h => h) (Or.inl ⟨by rfl, ?_⟩) hS ?_
                · intro w' hw'
                  go_simp
                try simp only [Act.put, List.setIfInBounds_toArray, List.set_cons_zero, List.set_cons_succ]
                refine wpAnyY_pure (i := 1) (v := .pointer (some ⟨w.heap.size, 67, none⟩)) rfl (by kernel_rfl) (by kernel_rfl) (by kernel_rfl) (by kernel_rfl) (fun _ _ _ h => h) (Or.inl ⟨by rfl, ?_⟩) hS ?_
                · intro w' hw'
                  go_simp
                try simp only [Act.put, List.setIfInBounds_toArray, List.set_cons_zero, List.set_cons_succ]
                refine wpAnyY_take (i := 2) (v := .agg x.path.cells.toArray) rfl (by kernel_rfl) (by kernel_rfl) (by kernel_rfl) (by kernel_rfl) (by kernel_rfl) (fun _ _ _ h => h) (yieldsIf_load_mid (by rfl) 80 (.tmp 63) rfl w.heap.size 67 rfl x.path.cells _ (fun _ h => h) hhp rfl hip) hS ?_
                try simp only [Act.put, List.setIfInBounds_toArray, List.set_cons_zero, List.set_cons_succ]
                refine wpAnyY_pure (i := 5) (v := .pointer (some ⟨w.heap.size, 167, none⟩)) rfl (by kernel_rfl) (by kernel_rfl) (by kernel_rfl) (by kernel_rfl) (fun _ _ _ h => h) (Or.inl ⟨by rfl, ?_⟩) hS ?_
                · intro w' hw'
                  go_simp
                try simp only [Act.put, List.setIfInBounds_toArray, List.set_cons_zero, List.set_cons_succ]
                refine wpAnyY_pure (i := 6) (v := .slice (some ⟨w.heap.size, 167, none⟩) 32 32) rfl (by kernel_rfl) (by kernel_rfl) (by kernel_rfl) (by kernel_rfl) (fun _ _ _ h => h) (Or.inl ⟨by rfl, ?_⟩) hS ?_
                · intro w' hw'
                  go_simp
                try simp only [Act.put, List.setIfInBounds_toArray, List.set_cons_zero, List.set_cons_succ]
                refine wpAnyY_one (i := 3) (by kernel_rfl) rfl (fun K' hK => ?_)
                go_simp
                go_at_call 85
                refine (HPt.out _ HWr.out.drew (by trivial)).mono ?_
                rintro e w9 ⟨v9, rfl, ho9, hb9⟩
                obtain ⟨A9, c9, rfl, hr9, -, -, -⟩ := ho9.shape' HPL.out.symm
                have HR9 := Lib.hid hr9
                have HO9 := Lib.hid (HO8.out.drew.below hb9 (Nat.le_refl _))
                have HG9 := Lib.hid (HGr.out.drew.trans (hb9.mono (show w0.heap.size ≤ wr.heap.size from hqr)))
                have HBx9 := Lib.hid (HBx.out.below HG9.out (by omega))
                have hq9 := HG9.out.size
                clear ho9 hr9 hb9
                refine hK _ _ (fun _ => commC_path HBx9.out HX.out) ?_
                clear hK K'
                try simp only [Act.put, List.setIfInBounds_toArray, List.set_cons_zero, List.set_cons_succ]
                refine wpAnyY_one (i := 4) (by kernel_rfl) rfl (fun K' hK => ?_)
                refine step_append_rd rfl (.tmp 62) (.tmp 65) 24 rfl b8_one w0.heap.size 5 i0 _ 1 Try.underlying24 hi0 hz0 hz1 hz2 rfl _ _ rfl HO9.out w9.heap.size A9 pl c9 (pathB x.path) rfl HPL.out HR9.out (by rw [← HLn.out, ← HPL.out]; simp only [maxLen]; omega) (by rw [← HLn.out, ← HPL.out]; omega) (by omega) ?_
                intro v10 w10 hown10 hg10 hbb10
                have HO10 := Lib.hid hown10
                have HG10 := Lib.hid (hbb10 _ _ (Nat.le_refl _) HG9.out)
                have HBx10 := Lib.hid (HBx.out.below HG10.out (by omega))
                have hq10 := HG10.out.size
                clear hown10 hg10 hbb10
                refine hK _ _ (fun _ => commC_path HBx10.out HX.out) ?_
                clear hK K'
                try simp only [Act.put, List.setIfInBounds_toArray, List.set_cons_zero, List.set_cons_succ]
                refine wpAnyY_one (i := 7) (by kernel_rfl) rfl (fun K' hK => ?_)
                refine step_append_rd rfl (.tmp 66) (.tmp 68) 24 rfl b8_one w0.heap.size 5 i0 _ 1 Try.underlying24 hi0 hz0 hz1 hz2 rfl _ _ rfl HO10.out (w.heap.size + 1) _ 32 32 x.tag rfl HX.out.tag.symm (rd_of_range (commC_tag HBx10.out HX.out)) (by rw [List.length_append, ← HLn.out, ← HPL.out, HX.out.tag]; simp only [maxLen]; omega) (by rw [List.length_append, ← HLn.out, ← HPL.out, HX.out.tag]; omega) (by omega) ?_
                intro v11 w11 hown11 hg11 hbb11
                have HO11 := Lib.hid hown11
                have HG11 := Lib.hid (hbb11 _ _ (Nat.le_refl _) HG10.out)
                have HBx11 := Lib.hid (HBx.out.below HG11.out (by omega))
                have hq11 := HG11.out.size
                clear hown11 hg11 hbb11
                refine hK _ _ (fun _ => commC_path HBx11.out HX.out) ?_
                clear hK K'
                try simp only [Act.put, List.setIfInBounds_toArray, List.set_cons_zero, List.set_cons_succ]
                refine wpAnyY_one (i := 8) (by kernel_rfl) rfl (fun K' hK => ?_)
                go_simp
                refine hK _ _ (fun h => absurd rfl h) (wpAnyY_done (by kernel_rfl) ?_ _)
                clear hK K' hS
                obtain ⟨N, hN⟩ : ∃ N, N = (commB x).length := ⟨_, rfl⟩
                have HNl := Lib.hid (show (pre ++ pathB x.path ++ x.tag ++ x.sig).length = N by
                  rw [hN, HPre.out, HHd.out]; unfold commB; rw [HE.out, HF.out, ← HN.out]
                  simp only [List.length_append, List.length_singleton, be_len]; omega)
                have HCe := Lib.hid (show pre ++ pathB x.path ++ x.tag ++ x.sig = commB x by
                  rw [HPre.out, HHd.out]; unfold commB; rw [HE.out, HF.out, ← HN.out]
                  simp only [List.append_assoc]; rfl)
                have HNc := Lib.hid hN
                clear hN
                go_wp2_with (at_builtin; refine wpList_append_rd rfl (.tmp 70) (.tmp 72) 24 rfl b8_one w0.heap.size 5 i0 _ 1 Try.underlying24 hi0 hz0 hz1 hz2 rfl _ _ rfl HO11.out (w.heap.size + 1) _ 64 64 x.sig rfl HX.out.sig.symm (rd_of_range (commC_sig HBx11.out HX.out)) (by rw [List.length_append, List.length_append, ← HLn.out, ← HPL.out, HX.out.tag, HX.out.sig]; simp only [maxLen]; omega) (by rw [List.length_append, List.length_append, ← HLn.out, ← HPL.out, HX.out.tag, HX.out.sig]; omega) (by omega) ?_; intro v12 w12 hown12 hg12 hbb12; obtain ⟨A12, c12, rfl, -, -, -, -⟩ := hown12.shape' HNl.out; have HO12 := Lib.hid hown12; have HG12 := Lib.hid (hbb12 _ _ (Nat.le_refl _) HG11.out); clear hown12 hg12 hbb12)
                have HBe := Lib.hid (HB0.out.trans (HG12.out.mono (show w.heap.size ≤ w0.heap.size by omega)))
                cases bg with
                | true =>
                  have hbig : 65536 < N := by have h := HBg.out; rw [← HNc.out] at h; simpa using h.symm
                  refine (fits_big A12 N c12 w12 hbig).mono ?_
                  rintro e w13 ⟨rfl, rfl⟩
                  go_wp2_with fail
                  go_ret2
                  exact ⟨_, rfl, Own.nil_ _ _ _ _, HBe.out⟩
                | false =>
                  have hbig : ¬ 65536 < N := by have h := HBg.out; rw [← HNc.out] at h; simpa using h.symm
                  refine (fits_ok A12 N c12 w12 hbig).mono ?_
                  rintro e w13 ⟨rfl, rfl⟩
                  go_wp2_with fail
                  go_ret2
                  exact ⟨_, rfl, (HO12.out.less (show w.heap.size ≤ w0.heap.size by omega)).cast HCe.out, HBe.out⟩
          · skip
            obtain ⟨hd, hhd⟩ : ∃ hd, hd = groupB x.grp (E : Int) (F : Int) ++ x.base ++ [beAt (n : Int) 0] := ⟨_, rfl⟩
            have hhl : hd.length = 70 := by rw [hhd]; simp only [List.length_append, List.length_singleton, groupB_len, HX.out.grp, HX.out.base]
            have ho3 := HO3.out
            rw [← hhd] at ho3
            have HO3 := Lib.hid ho3
            have HHd := Lib.hid hhd
            have HHl := Lib.hid hhl
            clear ho3 hhd hhl c32 c33 c66 ck hf
            go_wp2_with fail
            go_loopw [4, 5] (fun rv iv wr => ∃ k : Nat, k ≤ n ∧ iv = .int .i64 (k : Int) ∧ propsBad (x.props.take k) = false ∧ Own b8 wr w0.heap.size 5 rv (hd ++ propsB (x.props.take k)) ∧ Below w0.heap.size w0 wr) (fun _ iv _ => n - (intOf iv).toNat)
            case atStart => exact ⟨0, by omega, rfl, rfl, HO3.out.cast (by simp [propsB]), HG3.out⟩
            case round =>
              obtain ⟨k, hk, rfl, hsb, ho, hb⟩ := hrel
              have HSb := Lib.hid hsb
              have HOr := Lib.hid ho
              have HGr := Lib.hid hb
              have HBxr := Lib.hid (HBx.out.below hb (by omega))
              have HWr := Lib.hid (HB0.out.trans (hb.mono (show w.heap.size ≤ w0.heap.size by omega)))
              have c66 := HC66.out _ HBxr.out
              have hqr : w0.heap.size ≤ wr.heap.size := hb.size
              by_cases hlt : k < n
              · have hlt' : (k : Int) < (n : Int) := by omega
                obtain ⟨t, ht⟩ : ∃ t, x.props[k]? = some t := ⟨x.props[k]'(by rw [← HN.out]; omega), List.getElem?_eq_getElem _⟩
                have HT := Lib.hid ht
                have HRp := Lib.hid (fun (W : World) (hW : Below w.heap.size w W) => (HR.out W hW).props)
                obtain ⟨b, off, e1, hbb, hc1⟩ := (HRp.out _ HWr.out).elem ht
                have HC := Lib.hid (show ∀ W, Below w.heap.size w W → W.rangeAt b (off + k * 263) t.cells from fun W hW => by
                  obtain ⟨b', off', e', -, hc'⟩ := (HRp.out _ hW).elem ht
                  rw [e1] at e'
                  cases e'
                  exact hc')
                have HEl := Lib.hid (show ∀ W, Below w.heap.size w W → ElP W B' t from fun W hW => (HRp.out _ hW).el t (List.mem_of_getElem? ht))
                have hel := HEl.out _ HWr.out
                have HLen := Lib.hid (propC_len hel.ok t.A t.c)
                have hsk : propsBad (x.props.take (k + 1)) = propBad t.x := by rw [propsBad_succ x.props k t ht, HSb.out]; rfl
                have HSk := Lib.hid hsk
                have hul := hel.uml
                have HAp := Lib.hid e1
                rw [e1] at c66
                have HGd := Lib.hid (fun (W : World) (hW : Below w.heap.size w W) => propGood_any t.x hel.ok (c := t.c) (HEl.out _ hW).um (show B' ≤ W.heap.size by have := hW.size; omega))
                have HPr := Lib.hid (fun (W : World) (hW : Below w.heap.size w W) (hg : propBad t.x = false) => refProposal_any t.x hel.ok (c := t.c) (HEl.out _ hW).um (show B' ≤ W.heap.size by have := hW.size; omega) hul hg)
                have HPbl := Lib.hid (propB_len hel.ok hul)
                have hkl : (propsB (x.props.take k)).length ≤ 255 * 700 := by
                  have h := propsB_len (ss := x.props.take k) (fun s hs => ⟨((HRp.out _ HWr.out).el s (List.mem_of_mem_take hs)).ok, ((HRp.out _ HWr.out).el s (List.mem_of_mem_take hs)).uml⟩)
                  rw [List.length_take] at h
                  exact Nat.le_trans h (Nat.mul_le_mul_right _ (by omega))
                have HOl := Lib.hid (show (hd ++ propsB (x.props.take k)).length ≤ 200000 by rw [List.length_append, HHl.out]; omega)
                obtain ⟨tb, htb⟩ : ∃ tb, tb = propBad t.x := ⟨_, rfl⟩
                rw [← htb] at HGd HPr HSk
                clear hsb ho hb ht hc1 hel hsk hkl e1 htb
                obtain ⟨bl, hbl⟩ : ∃ l, l = (propB t.x).length := ⟨_, rfl⟩
                have HBl := Lib.hid hbl
                have hbl7 : bl ≤ 700 := by rw [hbl]; exact HPbl.out
                clear hbl
                go_wp2_with (refine wpList_load_midw (by first | rfl | go_simp) 71 (.tmp 50) rfl b (off + k * 263) rfl t.cells _ (HC.out _ HWr.out) Try.underlying71 rfl (by show _ = some (propC t.x t.A t.c).length; rw [HLen.out]; exact infoProp) ?_)
                refine (HGd.out _ HWr.out).mono ?_
                rintro e w4 ⟨rfl, hb4⟩
                have HW4 := Lib.hid (HWr.out.trans (hb4.mono HWr.out.size))
                have HG4 := Lib.hid (HGr.out.trans (hb4.mono hqr))
                have HO4 := Lib.hid (HOr.out.below hb4 (Nat.le_refl _))
                have c66 := HC66.out _ (HBx.out.below HG4.out (by omega))
                rw [HAp.out] at c66
                have hq4 := HG4.out.size
                clear hb4
                cases tb with
                | true =>
                  exact absurd ((propsBad_take x.props (k + 1) HSk.out).symm.trans HQB.out.symm) (by simp)
                | false =>
                  go_wp2_with (refine wpList_load_midw (by first | rfl | go_simp) 71 (.tmp 58) rfl b (off + k * 263) rfl t.cells _ (HC.out _ HW4.out) Try.underlying71 rfl (by show _ = some (propC t.x t.A t.c).length; rw [HLen.out]; exact infoProp) ?_)
                  refine (HPr.out _ HW4.out (by trivial)).mono ?_
                  rintro e w5 ⟨v5, rfl, ho5, hb5⟩
                  obtain ⟨A5, c5, rfl, hr5, -, -, -⟩ := ho5.shape' HBl.out.symm
                  have HR5 := Lib.hid hr5
                  have HO5 := Lib.hid (HO4.out.below hb5 (Nat.le_refl _))
                  have HG5 := Lib.hid (HG4.out.trans (hb5.mono hq4))
                  have hq5 := HG5.out.size
                  clear ho5 hr5 hb5
                  go_wp2_with (at_builtin; refine wpList_append_rd rfl (.tmp 54) (.tmp 60) 24 rfl b8_one w0.heap.size 5 i0 _ 1 Try.underlying24 hi0 hz0 hz1 hz2 rfl _ _ rfl HO5.out w5.heap.size A5 bl c5 (propB t.x) rfl HBl.out HR5.out (by rw [← HBl.out]; have := HOl.out; simp only [maxLen]; omega) (by rw [← HBl.out]; have := HOl.out; omega) (by omega) ?_; intro v7 w7 hown7 hg7 hbb7; have HO7 := Lib.hid hown7; have HG7 := Lib.hid (hbb7 _ _ (Nat.le_refl _) HG5.out); clear hown7 hg7 hbb7)
                  exact ⟨⟨k + 1, by omega, by congr 1, HSk.out, HO7.out.cast (by rw [propsB_succ x.props k t HT.out, List.append_assoc]), HG7.out⟩, by show n - ((k : Int) + 1).toNat < n - (k : Int).toNat; omega⟩
              · obtain rfl : k = n := by omega
                have e9 : x.props.take k = x.props := List.take_of_length_le (by rw [HN.out]; exact Nat.le_refl _)
                rw [e9] at HSb HOr
                clear hb ho hsb e9
                obtain ⟨pre, hpre⟩ : ∃ p, p = hd ++ propsB x.props := ⟨_, rfl⟩
                have ho8 := HOr.out
                rw [← hpre] at ho8
                have HO8 := Lib.hid ho8
                have hprel : pre.length ≤ 200000 := by
                  have h := propsB_len (ss := x.props) (fun s hs => ⟨(((HR.out _ HWr.out).props).el s hs).ok, (((HR.out _ HWr.out).props).el s hs).uml⟩)
                  have h2 : x.props.length * 700 ≤ 255 * 700 := Nat.mul_le_mul_right _ (by rw [← HN.out]; omega)
                  have h3 := Nat.le_trans h h2
                  rw [hpre, List.length_append, HHl.out]; omega
                have HPre := Lib.hid hpre
                have hpl := HPl.out (by trivial)
                have hhp := Try.underlying80
                have hip : (Try.prog.info? 80).map (·.size) = some x.path.cells.length := by rw [pathC_len HX.out.leaf]; exact infoPath
                obtain ⟨pl, hpl2⟩ : ∃ l, l = (pathB x.path).length := ⟨_, rfl⟩
                have HPL := Lib.hid hpl2
                rw [← hpl2] at hpl
                clear ho8 hpre hpl2
                obtain ⟨ln, hln⟩ : ∃ l, l = pre.length := ⟨_, rfl⟩
                have HLn := Lib.hid hln
                rw [← hln] at hprel
                obtain ⟨A8, c8, rfl, -, -, -, -⟩ := HO8.out.shape' hln.symm
                clear hln
                go_wp2_with fail
                have hS : wr.drew.rangeAt w.heap.size 67 x.path.cells := commC_path HBxr.out HX.out
                refine wp_region_Y (by kernel_rfl) (fun w' => w'.rangeAt w.heap.size 67 x.path.cells) 8 ?_
                refine wpAnyY_pure (i := 0) (v := .slice A8 ln c8) rfl (by kernel_rfl) (by kernel_rfl) (by kernel_rfl) (by kernel_rfl) (fun _ _ _ h => h) (Or.inl ⟨by rfl, ?_⟩) hS ?_
                · intro w' hw'
                  go_simp
                try simp only [Act.put, List.setIfInBounds_toArray, List.set_cons_zero, List.set_cons_succ]
                refine wpAnyY_pure (i := 1) (v := .pointer (some ⟨w.heap.size, 67, none⟩)) rfl (by kernel_rfl) (by kernel_rfl) (by kernel_rfl) (by kernel_rfl) (fun _ _ _ h => h) (Or.inl ⟨by rfl, ?_⟩) hS ?_
                · intro w' hw'
                  go_simp
                try simp only [Act.put, List.setIfInBounds_toArray, List.set_cons_zero, List.set_cons_succ]
                refine wpAnyY_take (i := 2) (v := .agg x.path.cells.toArray) rfl (by kernel_rfl) (by kernel_rfl) (by kernel_rfl) (by kernel_rfl) (by kernel_rfl) (fun _ _ _ h => h) (yieldsIf_load_mid (by rfl) 80 (.tmp 63) rfl w.heap.size 67 rfl x.path.cells _ (fun _ h => h) hhp rfl hip) hS ?_
                try simp only [Act.put, List.setIfInBounds_toArray, List.set_cons_zero, List.set_cons_succ]
                refine wpAnyY_pure (i := 5) (v := .pointer (some ⟨w.heap.size, 167, none⟩)) rfl (by kernel_rfl) (by kernel_rfl) (by kernel_rfl) (by kernel_rfl) (fun _ _ _ h => h) (Or.inl ⟨by rfl, ?_⟩) hS ?_
                · intro w' hw'
                  go_simp
                try simp only [Act.put, List.setIfInBounds_toArray, List.set_cons_zero, List.set_cons_succ]
                refine wpAnyY_pure (i := 6) (v := .slice (some ⟨w.heap.size, 167, none⟩) 32 32) rfl (by kernel_rfl) (by kernel_rfl) (by kernel_rfl) (by kernel_rfl) (fun _ _ _ h => h) (Or.inl ⟨by rfl, ?_⟩) hS ?_
                · intro w' hw'
                  go_simp
                try simp only [Act.put, List.setIfInBounds_toArray, List.set_cons_zero, List.set_cons_succ]
                refine wpAnyY_one (i := 3) (by kernel_rfl) rfl (fun K' hK => ?_)
                go_simp
                go_at_call 85
                refine (HPt.out _ HWr.out.drew (by trivial)).mono ?_
                rintro e w9 ⟨v9, rfl, ho9, hb9⟩
                obtain ⟨A9, c9, rfl, hr9, -, -, -⟩ := ho9.shape' HPL.out.symm
                have HR9 := Lib.hid hr9
                have HO9 := Lib.hid (HO8.out.drew.below hb9 (Nat.le_refl _))
                have HG9 := Lib.hid (HGr.out.drew.trans (hb9.mono (show w0.heap.size ≤ wr.heap.size from hqr)))
                have HBx9 := Lib.hid (HBx.out.below HG9.out (by omega))
                have hq9 := HG9.out.size
                clear ho9 hr9 hb9
                refine hK _ _ (fun _ => commC_path HBx9.out HX.out) ?_
                clear hK K'
                try simp only [Act.put, List.setIfInBounds_toArray, List.set_cons_zero, List.set_cons_succ]
                refine wpAnyY_one (i := 4) (by kernel_rfl) rfl (fun K' hK => ?_)
                refine step_append_rd rfl (.tmp 62) (.tmp 65) 24 rfl b8_one w0.heap.size 5 i0 _ 1 Try.underlying24 hi0 hz0 hz1 hz2 rfl _ _ rfl HO9.out w9.heap.size A9 pl c9 (pathB x.path) rfl HPL.out HR9.out (by rw [← HLn.out, ← HPL.out]; simp only [maxLen]; omega) (by rw [← HLn.out, ← HPL.out]; omega) (by omega) ?_
                intro v10 w10 hown10 hg10 hbb10
                have HO10 := Lib.hid hown10
                have HG10 := Lib.hid (hbb10 _ _ (Nat.le_refl _) HG9.out)
                have HBx10 := Lib.hid (HBx.out.below HG10.out (by omega))
                have hq10 := HG10.out.size
                clear hown10 hg10 hbb10
                refine hK _ _ (fun _ => commC_path HBx10.out HX.out) ?_
                clear hK K'
                try simp only [Act.put, List.setIfInBounds_toArray, List.set_cons_zero, List.set_cons_succ]
                refine wpAnyY_one (i := 7) (by kernel_rfl) rfl (fun K' hK => ?_)
                refine step_append_rd rfl (.tmp 66) (.tmp 68) 24 rfl b8_one w0.heap.size 5 i0 _ 1 Try.underlying24 hi0 hz0 hz1 hz2 rfl _ _ rfl HO10.out (w.heap.size + 1) _ 32 32 x.tag rfl HX.out.tag.symm (rd_of_range (commC_tag HBx10.out HX.out)) (by rw [List.length_append, ← HLn.out, ← HPL.out, HX.out.tag]; simp only [maxLen]; omega) (by rw [List.length_append, ← HLn.out, ← HPL.out, HX.out.tag]; omega) (by omega) ?_
                intro v11 w11 hown11 hg11 hbb11
                have HO11 := Lib.hid hown11
                have HG11 := Lib.hid (hbb11 _ _ (Nat.le_refl _) HG10.out)
                have HBx11 := Lib.hid (HBx.out.below HG11.out (by omega))
                have hq11 := HG11.out.size
                clear hown11 hg11 hbb11
                refine hK _ _ (fun _ => commC_path HBx11.out HX.out) ?_
                clear hK K'
                try simp only [Act.put, List.setIfInBounds_toArray, List.set_cons_zero, List.set_cons_succ]
                refine wpAnyY_one (i := 8) (by kernel_rfl) rfl (fun K' hK => ?_)
                go_simp
                refine hK _ _ (fun h => absurd rfl h) (wpAnyY_done (by kernel_rfl) ?_ _)
                clear hK K' hS
                obtain ⟨N, hN⟩ : ∃ N, N = (commB x).length := ⟨_, rfl⟩
                have HNl := Lib.hid (show (pre ++ pathB x.path ++ x.tag ++ x.sig).length = N by
                  rw [hN, HPre.out, HHd.out]; unfold commB; rw [HE.out, HF.out, ← HN.out]
                  simp only [List.length_append, List.length_singleton, be_len]; omega)
                have HCe := Lib.hid (show pre ++ pathB x.path ++ x.tag ++ x.sig = commB x by
                  rw [HPre.out, HHd.out]; unfold commB; rw [HE.out, HF.out, ← HN.out]
                  simp only [List.append_assoc]; rfl)
                have HNc := Lib.hid hN
                clear hN
                go_wp2_with (at_builtin; refine wpList_append_rd rfl (.tmp 70) (.tmp 72) 24 rfl b8_one w0.heap.size 5 i0 _ 1 Try.underlying24 hi0 hz0 hz1 hz2 rfl _ _ rfl HO11.out (w.heap.size + 1) _ 64 64 x.sig rfl HX.out.sig.symm (rd_of_range (commC_sig HBx11.out HX.out)) (by rw [List.length_append, List.length_append, ← HLn.out, ← HPL.out, HX.out.tag, HX.out.sig]; simp only [maxLen]; omega) (by rw [List.length_append, List.length_append, ← HLn.out, ← HPL.out, HX.out.tag, HX.out.sig]; omega) (by omega) ?_; intro v12 w12 hown12 hg12 hbb12; obtain ⟨A12, c12, rfl, -, -, -, -⟩ := hown12.shape' HNl.out; have HO12 := Lib.hid hown12; have HG12 := Lib.hid (hbb12 _ _ (Nat.le_refl _) HG11.out); clear hown12 hg12 hbb12)
                have HBe := Lib.hid (HB0.out.trans (HG12.out.mono (show w.heap.size ≤ w0.heap.size by omega)))
                cases bg with
                | true =>
                  have hbig : 65536 < N := by have h := HBg.out; rw [← HNc.out] at h; simpa using h.symm
                  refine (fits_big A12 N c12 w12 hbig).mono ?_
                  rintro e w13 ⟨rfl, rfl⟩
                  go_wp2_with fail
                  go_ret2
                  exact ⟨_, rfl, Own.nil_ _ _ _ _, HBe.out⟩
                | false =>
                  have hbig : ¬ 65536 < N := by have h := HBg.out; rw [← HNc.out] at h; simpa using h.symm
                  refine (fits_ok A12 N c12 w12 hbig).mono ?_
                  rintro e w13 ⟨rfl, rfl⟩
                  go_wp2_with fail
                  go_ret2
                  exact ⟨_, rfl, (HO12.out.less (show w.heap.size ≤ w0.heap.size by omega)).cast HCe.out, HBe.out⟩
end Go.Proofs.Ytloglpamnalmeaa
