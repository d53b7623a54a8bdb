/- CONTRACTS: burrowref09.Proposal, PutProposal. -/
import Derived.Test.YtloglpamnalmeaaRefProp
namespace Go.Proofs.Ytloglpamnalmeaa
open Go.RowKit
set_option linter.unusedVariables false
set_option linter.unusedSimpArgs false

theorem rd_far {w w' : World} {B l : Nat} {xs : List (BitVec 8)} (h : Rd b8 w B (some ⟨l, 0, none⟩) xs) {row : Option Nat} (hg : w.grownBy w' row) (hl : l < w.heap.size) (hne : row ≠ some l) : Rd b8 w' B (some ⟨l, 0, none⟩) xs := fun hn => by
  obtain ⟨b, off, e, hb, hc⟩ := h hn
  cases e
  exact ⟨l, 0, rfl, hb, fun j u hu => (World.cell?_of_block (hg.block l hl (fun e => hne e.symm))).trans (hc j u hu)⟩
set_option maxRecDepth 100000 in
set_option maxHeartbeats 4000000 in
theorem refProposal_any (x : PropD) (hx : x.Ok) {w : World} {B' : Nat} {A : Option Addr} {c : Nat} (hr : Rd cI w B' A x.leaf.um) (hB' : B' ≤ w.heap.size) (hy : x.leaf.um.length ≤ 300) (hb : propBad x = false) :
    Calls Try.prog 79 #[.agg (propC x A c).toArray] w fun e w' => ∃ v, e = .returned v ∧ Own b8 w' w.heap.size 5 v (propB x) ∧ Below w.heap.size w w' := by
  obtain ⟨i0, hi0, hz0, hz1, hz2⟩ := info_parts infoU8
  have HX := Lib.hid hx
  have HR := Lib.hid hr
  have HBx := Lib.hid (Blk.new w 71 (propC x A c))
  have HB0 := Lib.hid ((Below.refl w.heap.size w).alloc (Nat.le_refl _) (.cells (propC x A c).toArray 71))
  have hs0 := World.size_alloc w (.cells (propC x A c).toArray 71)
  unfold propBad at hb
  rw [Bool.or_eq_false_iff, Bool.or_eq_false_iff] at hb
  obtain ⟨E, hE, hEl⟩ := outOf_nat hb.1.1
  obtain ⟨F, hF, hFl⟩ := outOf_nat hb.1.2
  have hkk : x.kind = 1 ∨ x.kind = 2 ∨ x.kind = 3 := by
    have h := hb.2
    unfold kindBad at h
    by_cases h1 : x.kind = 1
    · exact .inl h1
    · by_cases h2 : x.kind = 2
      · exact .inr (.inl h2)
      · by_cases h3 : x.kind = 3
        · exact .inr (.inr h3)
        · rw [if_neg h1, if_neg h2, if_neg h3] at h; cases h
  obtain ⟨k, hk⟩ : ∃ k, k = x.kind := ⟨_, rfl⟩
  rw [← hk] at hkk
  have HK := Lib.hid hk
  have HE := Lib.hid hE
  have HF := Lib.hid hF
  have c32 := (propC_ep HBx.out hx).trans (by rw [hE])
  have c33 := (propC_frm HBx.out hx).trans (by rw [hF])
  have c66 := (propC_kind HBx.out hx).trans (by rw [← hk])
  have ck := propC_grp HBx.out hx
  have hu := Try.underlying23
  have hi : (Try.prog.info? 23).map (·.size) = some (x.grp.map b8).length := by rw [List.length_map, hx.grp]; exact infoSum
  have hf := beAt0 k
  have hh := fun W => head9_any x.grp E F hx.grp (by omega) (by omega) W
  rw [arrV_mk] at hh
  have HHd := Lib.hid hh
  clear hx hr hb hk hE hF hh
  go_enter Try.func79, Try.ntmps79
  go_wp2_with fail
  generalize World.alloc w _ = w0 at HBx HB0 hs0 c32 c33 c66 ck ⊢
  have hsw : w.heap.size + 1 ≤ w0.heap.size := by omega
  clear hs0
  go_region_held3 (fun w' => w'.cell? ⟨w.heap.size, 32, none⟩ = some (.int .i64 (E : Int)) ∧ w'.cell? ⟨w.heap.size, 33, none⟩ = some (.int .i64 (F : Int)) ∧ w'.cell? ⟨w.heap.size, 66, none⟩ = some (.int .i64 k) ∧ w'.rangeAt w.heap.size 0 (x.grp.map b8))
    (first
      | exact ⟨(propC_ep HBx3.out HX.out).trans (by rw [HE.out]), (propC_frm HBx3.out HX.out).trans (by rw [HF.out]), (propC_kind HBx3.out HX.out).trans (by rw [← HK.out]), propC_grp HBx3.out HX.out⟩
      | exact ⟨(propC_ep HBx2.out HX.out).trans (by rw [HE.out]), (propC_frm HBx2.out HX.out).trans (by rw [HF.out]), (propC_kind HBx2.out HX.out).trans (by rw [← HK.out]), propC_grp HBx2.out HX.out⟩
      | exact ⟨(propC_ep HBx1.out HX.out).trans (by rw [HE.out]), (propC_frm HBx1.out HX.out).trans (by rw [HF.out]), (propC_kind HBx1.out HX.out).trans (by rw [← HK.out]), propC_grp HBx1.out HX.out⟩
      | exact ⟨(propC_ep (HBx2.out.alloc _) HX.out).trans (by rw [HE.out]), (propC_frm (HBx2.out.alloc _) HX.out).trans (by rw [HF.out]), (propC_kind (HBx2.out.alloc _) HX.out).trans (by rw [← HK.out]), propC_grp (HBx2.out.alloc _) HX.out⟩
      | exact ⟨(propC_ep (HBx1.out.alloc _) HX.out).trans (by rw [HE.out]), (propC_frm (HBx1.out.alloc _) HX.out).trans (by rw [HF.out]), (propC_kind (HBx1.out.alloc _) HX.out).trans (by rw [← HK.out]), propC_grp (HBx1.out.alloc _) HX.out⟩
      | exact ⟨(propC_ep ((HBx.out.alloc _).drew) HX.out).trans (by rw [HE.out]), (propC_frm ((HBx.out.alloc _).drew) HX.out).trans (by rw [HF.out]), (propC_kind ((HBx.out.alloc _).drew) HX.out).trans (by rw [← HK.out]), propC_grp ((HBx.out.alloc _).drew) HX.out⟩
      | go_keep)
    (first
      | (go_simp; go_at_call 56; refine (HHd.out w0.drew).mono ?_; rintro e w1 ⟨v1, rfl, ho1, hb1⟩; have HO1 := Lib.hid (show Own b8 w1 w0.heap.size 5 v1 _ from ho1); have HG1 := Lib.hid (show Below w0.heap.size w0 w1 from (Below.refl w0.heap.size w0).drew.trans hb1); have HBx1 := Lib.hid (HBx.out.below HG1.out (by omega)); have hq1 : w0.heap.size ≤ w1.heap.size := HG1.out.size; clear ho1 hb1)
      | (go_simp; go_at_call 56; refine (HHd.out (w0.alloc (.cells #[.int .u8 (bv (beAt k 0))] 5)).drew).mono ?_; rintro e w1 ⟨v1, rfl, ho1, hb1⟩; have hsA : w0.heap.size + 1 ≤ (w0.alloc (.cells #[.int .u8 (bv (beAt k 0))] 5)).drew.heap.size := (by show w0.heap.size + 1 ≤ (w0.alloc (.cells #[.int .u8 (bv (beAt k 0))] 5)).heap.size; simp); have HO1 := Lib.hid (ho1.less (show w0.heap.size ≤ (w0.alloc (.cells #[.int .u8 (bv (beAt k 0))] 5)).drew.heap.size by omega)); have HLn := Lib.hid (show v1.ownBlock ≠ some w0.heap.size from fun e => by have := (ho1.lt _ e).1; omega); have HRL := Lib.hid (((Rd.new b8 w0 5 [beAt k 0]).below (Below.refl _ _).drew).below (hb1.mono hsA)); have HG1 := Lib.hid (show Below w0.heap.size w0 w1 from ((Below.refl w0.heap.size w0).alloc (Nat.le_refl _) (.cells #[.int .u8 (bv (beAt k 0))] 5)).drew.trans (hb1.mono (by omega))); have HBx1 := Lib.hid (HBx.out.below HG1.out (by omega)); have hq1 : w0.heap.size + 1 ≤ w1.heap.size := Nat.le_trans hsA hb1.size; clear ho1 hb1 hsA)
      | (refine step_append_rd rfl (.tmp 10) (.tmp 12) 24 rfl b8_one w0.heap.size 5 i0 _ 1 Try.underlying24 hi0 hz0 hz1 hz2 rfl _ _ rfl HO1.out (w.heap.size + 1) _ 32 32 x.base rfl HX.out.base.symm (rd_of_range (propC_base HBx1.out HX.out)) (by simp only [groupB_len, HX.out.grp, HX.out.base, maxLen]; omega) (by simp only [groupB_len, HX.out.grp, HX.out.base]; omega) (by omega) ?_; intro v2 w2 hown2 hg2 hbb2; have HO2 := Lib.hid hown2; have HG2 := Lib.hid (hbb2 _ _ (Nat.le_refl _) HG1.out); have HBx2 := Lib.hid (HBx.out.below HG2.out (by omega)); have hq2 : w0.heap.size ≤ w2.heap.size := HG2.out.size; (first | (have HRL2 := Lib.hid (rd_far HRL.out hg2.by_ (by omega) HLn.out)) | skip); clear hown2 hg2 hbb2)
      | (refine step_append_rd rfl (.tmp 10) (.tmp 12) 24 rfl b8_one w0.heap.size 5 i0 _ 1 Try.underlying24 hi0 hz0 hz1 hz2 rfl _ _ rfl (HO1.out.alloc (.cells #[.int .u8 (bv (beAt k 0))] 5)) (w.heap.size + 1) _ 32 32 x.base rfl HX.out.base.symm (rd_of_range (propC_base (HBx1.out.alloc _) HX.out)) (by simp only [groupB_len, HX.out.grp, HX.out.base, maxLen]; omega) (by simp only [groupB_len, HX.out.grp, HX.out.base]; omega) (by rw [World.size_alloc]; omega) ?_; intro v2 w2 hown2 hg2 hbb2; have HO2 := Lib.hid hown2; have HG2 := Lib.hid (hbb2 _ _ (Nat.le_refl _) (HG1.out.alloc (by omega) (.cells #[.int .u8 (bv (beAt k 0))] 5))); have HBx2 := Lib.hid (HBx.out.below HG2.out (by omega)); have hq2 : w0.heap.size ≤ w2.heap.size := HG2.out.size; have HRL2 := Lib.hid (rd_far (Rd.new b8 w1 5 [beAt k 0]) hg2.by_ (by rw [World.size_alloc]; omega) (fun e => by have := HO1.out.lt _ e; omega)); clear hown2 hg2 hbb2)
      | (refine step_append_rd rfl (.tmp 13) (.tmp 17) 24 rfl b8_one w0.heap.size 5 i0 _ 1 Try.underlying24 hi0 hz0 hz1 hz2 rfl _ _ rfl HO2.out _ _ 1 1 [beAt k 0] rfl rfl HRL2.out (by simp only [List.length_append, List.length_singleton, groupB_len, HX.out.grp, HX.out.base, maxLen]; omega) (by simp only [List.length_append, List.length_singleton, groupB_len, HX.out.grp, HX.out.base]; omega) (by omega) ?_; intro v3 w3 hown3 hg3 hbb3; obtain ⟨A3, c3, rfl, -, -, -, -⟩ := hown3.shape' (n := 70) (by simp only [List.length_append, List.length_singleton, groupB_len, HX.out.grp, HX.out.base]); have HO3 := Lib.hid hown3; have HG3 := Lib.hid (hbb3 _ _ (Nat.le_refl _) HG2.out); have HBx3 := Lib.hid (HBx.out.below HG3.out (by omega)); clear hown3 hg3 hbb3)
      | (refine step_append_rd rfl (.tmp 13) (.tmp 17) 24 rfl b8_one w0.heap.size 5 i0 _ 1 Try.underlying24 hi0 hz0 hz1 hz2 rfl _ _ rfl (HO2.out.alloc (.cells #[.int .u8 (bv (beAt k 0))] 5)) (w2.heap.size + 1) _ 1 1 [beAt k 0] rfl rfl (Rd.new b8 w2 5 [beAt k 0]) (by simp only [List.length_append, List.length_singleton, groupB_len, HX.out.grp, HX.out.base, maxLen]; omega) (by simp only [List.length_append, List.length_singleton, groupB_len, HX.out.grp, HX.out.base]; omega) (by rw [World.size_alloc]; omega) ?_; intro v3 w3 hown3 hg3 hbb3; obtain ⟨A3, c3, rfl, -, -, -, -⟩ := hown3.shape' (n := 70) (by simp only [List.length_append, List.length_singleton, groupB_len, HX.out.grp, HX.out.base]); have HO3 := Lib.hid hown3; have HG3 := Lib.hid (hbb3 _ _ (Nat.le_refl _) (HG2.out.alloc (by omega) (.cells #[.int .u8 (bv (beAt k 0))] 5))); have HBx3 := Lib.hid (HBx.out.below HG3.out (by omega)); clear hown3 hg3 hbb3))
  · skip
    have HW3 := Lib.hid (HB0.out.trans (HG3.out.mono (show w.heap.size ≤ w0.heap.size by omega)))
    have hq3 : w0.heap.size ≤ w3.heap.size := HG3.out.size
    have c66 := (propC_kind HBx3.out HX.out).trans (by rw [← HK.out])
    have HL3 := Lib.hid (show (groupB x.grp (E : Int) (F : Int) ++ x.base ++ [beAt k 0]).length = 70 by simp only [List.length_append, List.length_singleton, groupB_len, HX.out.grp, HX.out.base])
    clear c32 c33 ck HHd
    rcases hkk with hk1 | hk2 | hk3
    · subst hk1
      go_wp2_with (refine wpList_load_mid rfl 50 (.tmp 23) rfl w.heap.size 67 rfl (nodeC x.leaf A c) _ (propC_leaf HBx3.out HX.out) Try.underlying50 rfl (by rw [nodeC_len HX.out.leaf]; exact infoNode) ?_)
      refine (refNode_any x.leaf HX.out.leaf (HR.out.below (HW3.out.mono hB')) (by have := HW3.out.size; omega) (by omega)).mono ?_
      rintro e w4 ⟨v4, rfl, ho4, hb4⟩
      obtain ⟨A4, c4, rfl, hr4, -, -, -⟩ := ho4.shape' (n := 99 + x.leaf.um.length) (nodeB_len HX.out.leaf)
      have HR4 := Lib.hid hr4
      have HO34 := Lib.hid (HO3.out.below hb4 (Nat.le_refl _))
      have HG4 := Lib.hid (HG3.out.trans (hb4.mono (by omega)))
      have hq4 := HG4.out.size
      clear ho4 hr4 hb4
      go_wp2_with (first
        | (at_builtin; refine wpList_append_rd rfl (.tmp 22) (.tmp 25) 24 rfl b8_one w0.heap.size 5 i0 _ 1 Try.underlying24 hi0 hz0 hz1 hz2 rfl _ _ rfl HO34.out w4.heap.size A4 (99 + x.leaf.um.length) c4 (nodeB x.leaf) rfl (nodeB_len HX.out.leaf).symm HR4.out (by rw [HL3.out, nodeB_len HX.out.leaf]; simp only [maxLen]; omega) (by rw [HL3.out, nodeB_len HX.out.leaf]; omega) (by omega) ?_; intro v5 w5 hown5 hg5 hbb5; have HO5 := Lib.hid hown5; have HG5 := Lib.hid (hbb5 _ _ (Nat.le_refl _) HG4.out); have HBx5 := Lib.hid (HBx.out.below HG5.out (by omega)); have c66 := (propC_kind HBx5.out HX.out).trans (by rw [← HK.out]); have hq5 := HG5.out.size; have HL5 := Lib.hid (show (groupB x.grp (E : Int) (F : Int) ++ x.base ++ [beAt (1 : Int) 0] ++ nodeB x.leaf).length = 169 + x.leaf.um.length by rw [List.length_append, HL3.out, nodeB_len HX.out.leaf]; omega); clear hown5 hg5 hbb5)
        | (at_builtin; refine wpList_append_rd rfl (.tmp 30) (.tmp 32) 24 rfl b8_one w0.heap.size 5 i0 _ 1 Try.underlying24 hi0 hz0 hz1 hz2 rfl _ _ rfl HO5.out (w.heap.size + 1) _ 32 32 x.start rfl HX.out.start.symm (rd_of_range (propC_start HBx5.out HX.out)) (by rw [HL5.out, HX.out.start]; simp only [maxLen]; omega) (by rw [HL5.out, HX.out.start]; omega) (by omega) ?_; intro v6 w6 hown6 hg6 hbb6; have HO6 := Lib.hid hown6; have HG6 := Lib.hid (hbb6 _ _ (Nat.le_refl _) HG5.out); have HBx6 := Lib.hid (HBx.out.below HG6.out (by omega)); have c66 := (propC_kind HBx6.out HX.out).trans (by rw [← HK.out]); have hq6 := HG6.out.size; clear hown6 hg6 hbb6)
        | (at_builtin; refine wpList_append_rd rfl (.tmp 43) (.tmp 45) 24 rfl b8_one w0.heap.size 5 i0 _ 1 Try.underlying24 hi0 hz0 hz1 hz2 rfl _ _ rfl HO6.out (w.heap.size + 1) _ 64 64 x.sig rfl HX.out.sig.symm (rd_of_range (propC_sig HBx6.out HX.out)) (by rw [List.length_append, HL5.out, HX.out.start, HX.out.sig]; simp only [maxLen]; omega) (by rw [List.length_append, HL5.out, HX.out.start, HX.out.sig]; omega) (by omega) ?_; intro v7 w7 hown7 hg7 hbb7; have HO7 := Lib.hid hown7; have HG7 := Lib.hid (hbb7 _ _ (Nat.le_refl _) HG6.out); clear hown7 hg7 hbb7))
      go_ret
      refine ⟨_, rfl, (HO7.out.less (show w.heap.size ≤ w0.heap.size by omega)).cast ?_, HB0.out.trans (HG7.out.mono (by omega))⟩
      unfold propB midB
      rw [HE.out, HF.out, ← HK.out, if_pos rfl]
      simp only [List.append_assoc]; rfl
    · subst hk2
      go_wp2_with (refine wpList_load_mid rfl 50 (.tmp 23) rfl w.heap.size 67 rfl (nodeC x.leaf A c) _ (propC_leaf HBx3.out HX.out) Try.underlying50 rfl (by rw [nodeC_len HX.out.leaf]; exact infoNode) ?_)
      refine (refNode_any x.leaf HX.out.leaf (HR.out.below (HW3.out.mono hB')) (by have := HW3.out.size; omega) (by omega)).mono ?_
      rintro e w4 ⟨v4, rfl, ho4, hb4⟩
      obtain ⟨A4, c4, rfl, hr4, -, -, -⟩ := ho4.shape' (n := 99 + x.leaf.um.length) (nodeB_len HX.out.leaf)
      have HR4 := Lib.hid hr4
      have HO34 := Lib.hid (HO3.out.below hb4 (Nat.le_refl _))
      have HG4 := Lib.hid (HG3.out.trans (hb4.mono (by omega)))
      have hq4 := HG4.out.size
      clear ho4 hr4 hb4
      go_wp2_with (first
        | (at_builtin; refine wpList_append_rd rfl (.tmp 22) (.tmp 25) 24 rfl b8_one w0.heap.size 5 i0 _ 1 Try.underlying24 hi0 hz0 hz1 hz2 rfl _ _ rfl HO34.out w4.heap.size A4 (99 + x.leaf.um.length) c4 (nodeB x.leaf) rfl (nodeB_len HX.out.leaf).symm HR4.out (by rw [HL3.out, nodeB_len HX.out.leaf]; simp only [maxLen]; omega) (by rw [HL3.out, nodeB_len HX.out.leaf]; omega) (by omega) ?_; intro v5 w5 hown5 hg5 hbb5; have HO5 := Lib.hid hown5; have HG5 := Lib.hid (hbb5 _ _ (Nat.le_refl _) HG4.out); have HBx5 := Lib.hid (HBx.out.below HG5.out (by omega)); have c66 := (propC_kind HBx5.out HX.out).trans (by rw [← HK.out]); have hq5 := HG5.out.size; have HL5 := Lib.hid (show (groupB x.grp (E : Int) (F : Int) ++ x.base ++ [beAt (2 : Int) 0] ++ nodeB x.leaf).length = 169 + x.leaf.um.length by rw [List.length_append, HL3.out, nodeB_len HX.out.leaf]; omega); clear hown5 hg5 hbb5)
        | (at_builtin; refine wpList_append_rd rfl (.tmp 43) (.tmp 45) 24 rfl b8_one w0.heap.size 5 i0 _ 1 Try.underlying24 hi0 hz0 hz1 hz2 rfl _ _ rfl HO5.out (w.heap.size + 1) _ 64 64 x.sig rfl HX.out.sig.symm (rd_of_range (propC_sig HBx5.out HX.out)) (by rw [HL5.out, HX.out.sig]; simp only [maxLen]; omega) (by rw [HL5.out, HX.out.sig]; omega) (by omega) ?_; intro v7 w7 hown7 hg7 hbb7; have HO7 := Lib.hid hown7; have HG7 := Lib.hid (hbb7 _ _ (Nat.le_refl _) HG5.out); clear hown7 hg7 hbb7))
      go_ret
      refine ⟨_, rfl, (HO7.out.less (show w.heap.size ≤ w0.heap.size by omega)).cast ?_, HB0.out.trans (HG7.out.mono (by omega))⟩
      unfold propB midB
      rw [HE.out, HF.out, ← HK.out, if_neg (by decide), if_pos rfl]
      simp only [List.append_assoc]; rfl
    · subst hk3
      have c198 := propC_at HBx3.out HX.out
      have hfa := beAt0 x.at_
      clear hf
      go_wp2_with (first
        | (at_builtin; refine wpList_append_rd rfl (.tmp 37) (.tmp 41) 24 rfl b8_one w0.heap.size 5 i0 _ 1 Try.underlying24 hi0 hz0 hz1 hz2 rfl _ _ rfl (HO3.out.alloc _) (w3.heap.size + 1) _ 1 1 [beAt x.at_ 0] rfl rfl (Rd.new b8 w3 5 [beAt x.at_ 0]) (by rw [HL3.out]; simp only [List.length_singleton, maxLen]; omega) (by rw [HL3.out]; simp only [List.length_singleton]; omega) (by rw [World.size_alloc]; omega) ?_; intro v5 w5 hown5 hg5 hbb5; have HO5 := Lib.hid hown5; have HG5 := Lib.hid (hbb5 _ _ (Nat.le_refl _) (HG3.out.alloc (by omega) _)); have HBx5 := Lib.hid (HBx.out.below HG5.out (by omega)); have hq5 := HG5.out.size; clear hown5 hg5 hbb5)
        | (at_builtin; refine wpList_append_rd rfl (.tmp 43) (.tmp 45) 24 rfl b8_one w0.heap.size 5 i0 _ 1 Try.underlying24 hi0 hz0 hz1 hz2 rfl _ _ rfl HO5.out (w.heap.size + 1) _ 64 64 x.sig rfl HX.out.sig.symm (rd_of_range (propC_sig HBx5.out HX.out)) (by rw [List.length_append, HL3.out, HX.out.sig]; simp only [List.length_singleton, maxLen]; omega) (by rw [List.length_append, HL3.out, HX.out.sig]; simp only [List.length_singleton]; omega) (by omega) ?_; intro v7 w7 hown7 hg7 hbb7; have HO7 := Lib.hid hown7; have HG7 := Lib.hid (hbb7 _ _ (Nat.le_refl _) HG5.out); clear hown7 hg7 hbb7))
      go_ret
      refine ⟨_, rfl, (HO7.out.less (show w.heap.size ≤ w0.heap.size by omega)).cast ?_, HB0.out.trans (HG7.out.mono (by omega))⟩
      unfold propB midB
      rw [HE.out, HF.out, ← HK.out, if_neg (by decide), if_neg (by decide), if_pos rfl]
      simp only [List.append_assoc]; rfl
  · skip
    have HW3 := Lib.hid (HB0.out.trans (HG3.out.mono (show w.heap.size ≤ w0.heap.size by omega)))
    have hq3 : w0.heap.size ≤ w3.heap.size := HG3.out.size
    have c66 := (propC_kind HBx3.out HX.out).trans (by rw [← HK.out])
    have HL3 := Lib.hid (show (groupB x.grp (E : Int) (F : Int) ++ x.base ++ [beAt k 0]).length = 70 by simp only [List.length_append, List.length_singleton, groupB_len, HX.out.grp, HX.out.base])
    clear c32 c33 ck HHd
    rcases hkk with hk1 | hk2 | hk3
    · subst hk1
      go_wp2_with (refine wpList_load_mid rfl 50 (.tmp 23) rfl w.heap.size 67 rfl (nodeC x.leaf A c) _ (propC_leaf HBx3.out HX.out) Try.underlying50 rfl (by rw [nodeC_len HX.out.leaf]; exact infoNode) ?_)
      refine (refNode_any x.leaf HX.out.leaf (HR.out.below (HW3.out.mono hB')) (by have := HW3.out.size; omega) (by omega)).mono ?_
      rintro e w4 ⟨v4, rfl, ho4, hb4⟩
      obtain ⟨A4, c4, rfl, hr4, -, -, -⟩ := ho4.shape' (n := 99 + x.leaf.um.length) (nodeB_len HX.out.leaf)
      have HR4 := Lib.hid hr4
      have HO34 := Lib.hid (HO3.out.below hb4 (Nat.le_refl _))
      have HG4 := Lib.hid (HG3.out.trans (hb4.mono (by omega)))
      have hq4 := HG4.out.size
      clear ho4 hr4 hb4
      go_wp2_with (first
        | (at_builtin; refine wpList_append_rd rfl (.tmp 22) (.tmp 25) 24 rfl b8_one w0.heap.size 5 i0 _ 1 Try.underlying24 hi0 hz0 hz1 hz2 rfl _ _ rfl HO34.out w4.heap.size A4 (99 + x.leaf.um.length) c4 (nodeB x.leaf) rfl (nodeB_len HX.out.leaf).symm HR4.out (by rw [HL3.out, nodeB_len HX.out.leaf]; simp only [maxLen]; omega) (by rw [HL3.out, nodeB_len HX.out.leaf]; omega) (by omega) ?_; intro v5 w5 hown5 hg5 hbb5; have HO5 := Lib.hid hown5; have HG5 := Lib.hid (hbb5 _ _ (Nat.le_refl _) HG4.out); have HBx5 := Lib.hid (HBx.out.below HG5.out (by omega)); have c66 := (propC_kind HBx5.out HX.out).trans (by rw [← HK.out]); have hq5 := HG5.out.size; have HL5 := Lib.hid (show (groupB x.grp (E : Int) (F : Int) ++ x.base ++ [beAt (1 : Int) 0] ++ nodeB x.leaf).length = 169 + x.leaf.um.length by rw [List.length_append, HL3.out, nodeB_len HX.out.leaf]; omega); clear hown5 hg5 hbb5)
        | (at_builtin; refine wpList_append_rd rfl (.tmp 30) (.tmp 32) 24 rfl b8_one w0.heap.size 5 i0 _ 1 Try.underlying24 hi0 hz0 hz1 hz2 rfl _ _ rfl HO5.out (w.heap.size + 1) _ 32 32 x.start rfl HX.out.start.symm (rd_of_range (propC_start HBx5.out HX.out)) (by rw [HL5.out, HX.out.start]; simp only [maxLen]; omega) (by rw [HL5.out, HX.out.start]; omega) (by omega) ?_; intro v6 w6 hown6 hg6 hbb6; have HO6 := Lib.hid hown6; have HG6 := Lib.hid (hbb6 _ _ (Nat.le_refl _) HG5.out); have HBx6 := Lib.hid (HBx.out.below HG6.out (by omega)); have c66 := (propC_kind HBx6.out HX.out).trans (by rw [← HK.out]); have hq6 := HG6.out.size; clear hown6 hg6 hbb6)
        | (at_builtin; refine wpList_append_rd rfl (.tmp 43) (.tmp 45) 24 rfl b8_one w0.heap.size 5 i0 _ 1 Try.underlying24 hi0 hz0 hz1 hz2 rfl _ _ rfl HO6.out (w.heap.size + 1) _ 64 64 x.sig rfl HX.out.sig.symm (rd_of_range (propC_sig HBx6.out HX.out)) (by rw [List.length_append, HL5.out, HX.out.start, HX.out.sig]; simp only [maxLen]; omega) (by rw [List.length_append, HL5.out, HX.out.start, HX.out.sig]; omega) (by omega) ?_; intro v7 w7 hown7 hg7 hbb7; have HO7 := Lib.hid hown7; have HG7 := Lib.hid (hbb7 _ _ (Nat.le_refl _) HG6.out); clear hown7 hg7 hbb7))
      go_ret
      refine ⟨_, rfl, (HO7.out.less (show w.heap.size ≤ w0.heap.size by omega)).cast ?_, HB0.out.trans (HG7.out.mono (by omega))⟩
      unfold propB midB
      rw [HE.out, HF.out, ← HK.out, if_pos rfl]
      simp only [List.append_assoc]; rfl
    · subst hk2
      go_wp2_with (refine wpList_load_mid rfl 50 (.tmp 23) rfl w.heap.size 67 rfl (nodeC x.leaf A c) _ (propC_leaf HBx3.out HX.out) Try.underlying50 rfl (by rw [nodeC_len HX.out.leaf]; exact infoNode) ?_)
      refine (refNode_any x.leaf HX.out.leaf (HR.out.below (HW3.out.mono hB')) (by have := HW3.out.size; omega) (by omega)).mono ?_
      rintro e w4 ⟨v4, rfl, ho4, hb4⟩
      obtain ⟨A4, c4, rfl, hr4, -, -, -⟩ := ho4.shape' (n := 99 + x.leaf.um.length) (nodeB_len HX.out.leaf)
      have HR4 := Lib.hid hr4
      have HO34 := Lib.hid (HO3.out.below hb4 (Nat.le_refl _))
      have HG4 := Lib.hid (HG3.out.trans (hb4.mono (by omega)))
      have hq4 := HG4.out.size
      clear ho4 hr4 hb4
      go_wp2_with (first
        | (at_builtin; refine wpList_append_rd rfl (.tmp 22) (.tmp 25) 24 rfl b8_one w0.heap.size 5 i0 _ 1 Try.underlying24 hi0 hz0 hz1 hz2 rfl _ _ rfl HO34.out w4.heap.size A4 (99 + x.leaf.um.length) c4 (nodeB x.leaf) rfl (nodeB_len HX.out.leaf).symm HR4.out (by rw [HL3.out, nodeB_len HX.out.leaf]; simp only [maxLen]; omega) (by rw [HL3.out, nodeB_len HX.out.leaf]; omega) (by omega) ?_; intro v5 w5 hown5 hg5 hbb5; have HO5 := Lib.hid hown5; have HG5 := Lib.hid (hbb5 _ _ (Nat.le_refl _) HG4.out); have HBx5 := Lib.hid (HBx.out.below HG5.out (by omega)); have c66 := (propC_kind HBx5.out HX.out).trans (by rw [← HK.out]); have hq5 := HG5.out.size; have HL5 := Lib.hid (show (groupB x.grp (E : Int) (F : Int) ++ x.base ++ [beAt (2 : Int) 0] ++ nodeB x.leaf).length = 169 + x.leaf.um.length by rw [List.length_append, HL3.out, nodeB_len HX.out.leaf]; omega); clear hown5 hg5 hbb5)
        | (at_builtin; refine wpList_append_rd rfl (.tmp 43) (.tmp 45) 24 rfl b8_one w0.heap.size 5 i0 _ 1 Try.underlying24 hi0 hz0 hz1 hz2 rfl _ _ rfl HO5.out (w.heap.size + 1) _ 64 64 x.sig rfl HX.out.sig.symm (rd_of_range (propC_sig HBx5.out HX.out)) (by rw [HL5.out, HX.out.sig]; simp only [maxLen]; omega) (by rw [HL5.out, HX.out.sig]; omega) (by omega) ?_; intro v7 w7 hown7 hg7 hbb7; have HO7 := Lib.hid hown7; have HG7 := Lib.hid (hbb7 _ _ (Nat.le_refl _) HG5.out); clear hown7 hg7 hbb7))
      go_ret
      refine ⟨_, rfl, (HO7.out.less (show w.heap.size ≤ w0.heap.size by omega)).cast ?_, HB0.out.trans (HG7.out.mono (by omega))⟩
      unfold propB midB
      rw [HE.out, HF.out, ← HK.out, if_neg (by decide), if_pos rfl]
      simp only [List.append_assoc]; rfl
    · subst hk3
      have c198 := propC_at HBx3.out HX.out
      have hfa := beAt0 x.at_
      clear hf
      go_wp2_with (first
        | (at_builtin; refine wpList_append_rd rfl (.tmp 37) (.tmp 41) 24 rfl b8_one w0.heap.size 5 i0 _ 1 Try.underlying24 hi0 hz0 hz1 hz2 rfl _ _ rfl (HO3.out.alloc _) (w3.heap.size + 1) _ 1 1 [beAt x.at_ 0] rfl rfl (Rd.new b8 w3 5 [beAt x.at_ 0]) (by rw [HL3.out]; simp only [List.length_singleton, maxLen]; omega) (by rw [HL3.out]; simp only [List.length_singleton]; omega) (by rw [World.size_alloc]; omega) ?_; intro v5 w5 hown5 hg5 hbb5; have HO5 := Lib.hid hown5; have HG5 := Lib.hid (hbb5 _ _ (Nat.le_refl _) (HG3.out.alloc (by omega) _)); have HBx5 := Lib.hid (HBx.out.below HG5.out (by omega)); have hq5 := HG5.out.size; clear hown5 hg5 hbb5)
        | (at_builtin; refine wpList_append_rd rfl (.tmp 43) (.tmp 45) 24 rfl b8_one w0.heap.size 5 i0 _ 1 Try.underlying24 hi0 hz0 hz1 hz2 rfl _ _ rfl HO5.out (w.heap.size + 1) _ 64 64 x.sig rfl HX.out.sig.symm (rd_of_range (propC_sig HBx5.out HX.out)) (by rw [List.length_append, HL3.out, HX.out.sig]; simp only [List.length_singleton, maxLen]; omega) (by rw [List.length_append, HL3.out, HX.out.sig]; simp only [List.length_singleton]; omega) (by omega) ?_; intro v7 w7 hown7 hg7 hbb7; have HO7 := Lib.hid hown7; have HG7 := Lib.hid (hbb7 _ _ (Nat.le_refl _) HG5.out); clear hown7 hg7 hbb7))
      go_ret
      refine ⟨_, rfl, (HO7.out.less (show w.heap.size ≤ w0.heap.size by omega)).cast ?_, HB0.out.trans (HG7.out.mono (by omega))⟩
      unfold propB midB
      rw [HE.out, HF.out, ← HK.out, if_neg (by decide), if_neg (by decide), if_pos rfl]
      simp only [List.append_assoc]; rfl
  · skip
    have HW3 := Lib.hid (HB0.out.trans (HG3.out.mono (show w.heap.size ≤ w0.heap.size by omega)))
    have hq3 : w0.heap.size ≤ w3.heap.size := HG3.out.size
    have c66 := (propC_kind HBx3.out HX.out).trans (by rw [← HK.out])
    have HL3 := Lib.hid (show (groupB x.grp (E : Int) (F : Int) ++ x.base ++ [beAt k 0]).length = 70 by simp only [List.length_append, List.length_singleton, groupB_len, HX.out.grp, HX.out.base])
    clear c32 c33 ck HHd
    rcases hkk with hk1 | hk2 | hk3
    · subst hk1
      go_wp2_with (refine wpList_load_mid rfl 50 (.tmp 23) rfl w.heap.size 67 rfl (nodeC x.leaf A c) _ (propC_leaf HBx3.out HX.out) Try.underlying50 rfl (by rw [nodeC_len HX.out.leaf]; exact infoNode) ?_)
      refine (refNode_any x.leaf HX.out.leaf (HR.out.below (HW3.out.mono hB')) (by have := HW3.out.size; omega) (by omega)).mono ?_
      rintro e w4 ⟨v4, rfl, ho4, hb4⟩
      obtain ⟨A4, c4, rfl, hr4, -, -, -⟩ := ho4.shape' (n := 99 + x.leaf.um.length) (nodeB_len HX.out.leaf)
      have HR4 := Lib.hid hr4
      have HO34 := Lib.hid (HO3.out.below hb4 (Nat.le_refl _))
      have HG4 := Lib.hid (HG3.out.trans (hb4.mono (by omega)))
      have hq4 := HG4.out.size
      clear ho4 hr4 hb4
      go_wp2_with (first
        | (at_builtin; refine wpList_append_rd rfl (.tmp 22) (.tmp 25) 24 rfl b8_one w0.heap.size 5 i0 _ 1 Try.underlying24 hi0 hz0 hz1 hz2 rfl _ _ rfl HO34.out w4.heap.size A4 (99 + x.leaf.um.length) c4 (nodeB x.leaf) rfl (nodeB_len HX.out.leaf).symm HR4.out (by rw [HL3.out, nodeB_len HX.out.leaf]; simp only [maxLen]; omega) (by rw [HL3.out, nodeB_len HX.out.leaf]; omega) (by omega) ?_; intro v5 w5 hown5 hg5 hbb5; have HO5 := Lib.hid hown5; have HG5 := Lib.hid (hbb5 _ _ (Nat.le_refl _) HG4.out); have HBx5 := Lib.hid (HBx.out.below HG5.out (by omega)); have c66 := (propC_kind HBx5.out HX.out).trans (by rw [← HK.out]); have hq5 := HG5.out.size; have HL5 := Lib.hid (show (groupB x.grp (E : Int) (F : Int) ++ x.base ++ [beAt (1 : Int) 0] ++ nodeB x.leaf).length = 169 + x.leaf.um.length by rw [List.length_append, HL3.out, nodeB_len HX.out.leaf]; omega); clear hown5 hg5 hbb5)
        | (at_builtin; refine wpList_append_rd rfl (.tmp 30) (.tmp 32) 24 rfl b8_one w0.heap.size 5 i0 _ 1 Try.underlying24 hi0 hz0 hz1 hz2 rfl _ _ rfl HO5.out (w.heap.size + 1) _ 32 32 x.start rfl HX.out.start.symm (rd_of_range (propC_start HBx5.out HX.out)) (by rw [HL5.out, HX.out.start]; simp only [maxLen]; omega) (by rw [HL5.out, HX.out.start]; omega) (by omega) ?_; intro v6 w6 hown6 hg6 hbb6; have HO6 := Lib.hid hown6; have HG6 := Lib.hid (hbb6 _ _ (Nat.le_refl _) HG5.out); have HBx6 := Lib.hid (HBx.out.below HG6.out (by omega)); have c66 := (propC_kind HBx6.out HX.out).trans (by rw [← HK.out]); have hq6 := HG6.out.size; clear hown6 hg6 hbb6)
        | (at_builtin; refine wpList_append_rd rfl (.tmp 43) (.tmp 45) 24 rfl b8_one w0.heap.size 5 i0 _ 1 Try.underlying24 hi0 hz0 hz1 hz2 rfl _ _ rfl HO6.out (w.heap.size + 1) _ 64 64 x.sig rfl HX.out.sig.symm (rd_of_range (propC_sig HBx6.out HX.out)) (by rw [List.length_append, HL5.out, HX.out.start, HX.out.sig]; simp only [maxLen]; omega) (by rw [List.length_append, HL5.out, HX.out.start, HX.out.sig]; omega) (by omega) ?_; intro v7 w7 hown7 hg7 hbb7; have HO7 := Lib.hid hown7; have HG7 := Lib.hid (hbb7 _ _ (Nat.le_refl _) HG6.out); clear hown7 hg7 hbb7))
      go_ret
      refine ⟨_, rfl, (HO7.out.less (show w.heap.size ≤ w0.heap.size by omega)).cast ?_, HB0.out.trans (HG7.out.mono (by omega))⟩
      unfold propB midB
      rw [HE.out, HF.out, ← HK.out, if_pos rfl]
      simp only [List.append_assoc]; rfl
    · subst hk2
      go_wp2_with (refine wpList_load_mid rfl 50 (.tmp 23) rfl w.heap.size 67 rfl (nodeC x.leaf A c) _ (propC_leaf HBx3.out HX.out) Try.underlying50 rfl (by rw [nodeC_len HX.out.leaf]; exact infoNode) ?_)
      refine (refNode_any x.leaf HX.out.leaf (HR.out.below (HW3.out.mono hB')) (by have := HW3.out.size; omega) (by omega)).mono ?_
      rintro e w4 ⟨v4, rfl, ho4, hb4⟩
      obtain ⟨A4, c4, rfl, hr4, -, -, -⟩ := ho4.shape' (n := 99 + x.leaf.um.length) (nodeB_len HX.out.leaf)
      have HR4 := Lib.hid hr4
      have HO34 := Lib.hid (HO3.out.below hb4 (Nat.le_refl _))
      have HG4 := Lib.hid (HG3.out.trans (hb4.mono (by omega)))
      have hq4 := HG4.out.size
      clear ho4 hr4 hb4
      go_wp2_with (first
        | (at_builtin; refine wpList_append_rd rfl (.tmp 22) (.tmp 25) 24 rfl b8_one w0.heap.size 5 i0 _ 1 Try.underlying24 hi0 hz0 hz1 hz2 rfl _ _ rfl HO34.out w4.heap.size A4 (99 + x.leaf.um.length) c4 (nodeB x.leaf) rfl (nodeB_len HX.out.leaf).symm HR4.out (by rw [HL3.out, nodeB_len HX.out.leaf]; simp only [maxLen]; omega) (by rw [HL3.out, nodeB_len HX.out.leaf]; omega) (by omega) ?_; intro v5 w5 hown5 hg5 hbb5; have HO5 := Lib.hid hown5; have HG5 := Lib.hid (hbb5 _ _ (Nat.le_refl _) HG4.out); have HBx5 := Lib.hid (HBx.out.below HG5.out (by omega)); have c66 := (propC_kind HBx5.out HX.out).trans (by rw [← HK.out]); have hq5 := HG5.out.size; have HL5 := Lib.hid (show (groupB x.grp (E : Int) (F : Int) ++ x.base ++ [beAt (2 : Int) 0] ++ nodeB x.leaf).length = 169 + x.leaf.um.length by rw [List.length_append, HL3.out, nodeB_len HX.out.leaf]; omega); clear hown5 hg5 hbb5)
        | (at_builtin; refine wpList_append_rd rfl (.tmp 43) (.tmp 45) 24 rfl b8_one w0.heap.size 5 i0 _ 1 Try.underlying24 hi0 hz0 hz1 hz2 rfl _ _ rfl HO5.out (w.heap.size + 1) _ 64 64 x.sig rfl HX.out.sig.symm (rd_of_range (propC_sig HBx5.out HX.out)) (by rw [HL5.out, HX.out.sig]; simp only [maxLen]; omega) (by rw [HL5.out, HX.out.sig]; omega) (by omega) ?_; intro v7 w7 hown7 hg7 hbb7; have HO7 := Lib.hid hown7; have HG7 := Lib.hid (hbb7 _ _ (Nat.le_refl _) HG5.out); clear hown7 hg7 hbb7))
      go_ret
      refine ⟨_, rfl, (HO7.out.less (show w.heap.size ≤ w0.heap.size by omega)).cast ?_, HB0.out.trans (HG7.out.mono (by omega))⟩
      unfold propB midB
      rw [HE.out, HF.out, ← HK.out, if_neg (by decide), if_pos rfl]
      simp only [List.append_assoc]; rfl
    · subst hk3
      have c198 := propC_at HBx3.out HX.out
      have hfa := beAt0 x.at_
      clear hf
      go_wp2_with (first
        | (at_builtin; refine wpList_append_rd rfl (.tmp 37) (.tmp 41) 24 rfl b8_one w0.heap.size 5 i0 _ 1 Try.underlying24 hi0 hz0 hz1 hz2 rfl _ _ rfl (HO3.out.alloc _) (w3.heap.size + 1) _ 1 1 [beAt x.at_ 0] rfl rfl (Rd.new b8 w3 5 [beAt x.at_ 0]) (by rw [HL3.out]; simp only [List.length_singleton, maxLen]; omega) (by rw [HL3.out]; simp only [List.length_singleton]; omega) (by rw [World.size_alloc]; omega) ?_; intro v5 w5 hown5 hg5 hbb5; have HO5 := Lib.hid hown5; have HG5 := Lib.hid (hbb5 _ _ (Nat.le_refl _) (HG3.out.alloc (by omega) _)); have HBx5 := Lib.hid (HBx.out.below HG5.out (by omega)); have hq5 := HG5.out.size; clear hown5 hg5 hbb5)
        | (at_builtin; refine wpList_append_rd rfl (.tmp 43) (.tmp 45) 24 rfl b8_one w0.heap.size 5 i0 _ 1 Try.underlying24 hi0 hz0 hz1 hz2 rfl _ _ rfl HO5.out (w.heap.size + 1) _ 64 64 x.sig rfl HX.out.sig.symm (rd_of_range (propC_sig HBx5.out HX.out)) (by rw [List.length_append, HL3.out, HX.out.sig]; simp only [List.length_singleton, maxLen]; omega) (by rw [List.length_append, HL3.out, HX.out.sig]; simp only [List.length_singleton]; omega) (by omega) ?_; intro v7 w7 hown7 hg7 hbb7; have HO7 := Lib.hid hown7; have HG7 := Lib.hid (hbb7 _ _ (Nat.le_refl _) HG5.out); clear hown7 hg7 hbb7))
      go_ret
      refine ⟨_, rfl, (HO7.out.less (show w.heap.size ≤ w0.heap.size by omega)).cast ?_, HB0.out.trans (HG7.out.mono (by omega))⟩
      unfold propB midB
      rw [HE.out, HF.out, ← HK.out, if_neg (by decide), if_neg (by decide), if_pos rfl]
      simp only [List.append_assoc]; rfl
set_option maxRecDepth 100000 in
set_option maxHeartbeats 2000000 in
theorem refPutProp_any (x : PropD) (hx : x.Ok) {w : World} {B' : Nat} {A : Option Addr} {c : Nat} (hr : Rd cI w B' A x.leaf.um) (hB' : B' ≤ w.heap.size) (hy : x.leaf.um.length ≤ 300) :
    Calls Try.prog 33 #[.agg (propC x A c).toArray] w fun e w' => ∃ v, e = .returned (.tuple #[v, .bool (!(propBad x || decide (65536 < (propB x).length)))]) ∧ Own b8 w' w.heap.size 5 v (if (propBad x || decide (65536 < (propB x).length)) then [] else propB x) ∧ Below w.heap.size w w' := by
  have HX := Lib.hid hx
  have HR := Lib.hid hr
  have HG := Lib.hid (fun W (hb : Below w.heap.size w W) => propGood_any x hx (c := c) (hr.below (hb.mono hB')) (by have := hb.size; omega))
  have HPr := Lib.hid (fun W (hb : Below w.heap.size w W) (hg : propBad x = false) => refProposal_any x hx (c := c) (hr.below (hb.mono hB')) (by have := hb.size; omega) hy hg)
  have HBx := Lib.hid (Blk.new w 71 (propC x A c))
  have HB0 := Lib.hid ((Below.refl w.heap.size w).alloc (Nat.le_refl _) (.cells (propC x A c).toArray 71))
  have hs0 := World.size_alloc w (.cells (propC x A c).toArray 71)
  have hl := propB_len hx hy
  rw [show decide (65536 < (propB x).length) = false by simp; omega, Bool.or_false]
  obtain ⟨N, hN⟩ : ∃ N, N = (propB x).length := ⟨_, rfl⟩
  have HNl := Lib.hid hN
  rw [← hN] at hl
  obtain ⟨q, hq⟩ : ∃ q, q = propBad x := ⟨_, rfl⟩
  rw [← hq] at HG HPr ⊢
  clear hx hr hN hq
  cases q with
  | true =>
    go_enter Try.func33, Try.ntmps33
    go_wp2_with (refine wpList_load_mid rfl 71 (.tmp 1) rfl w.heap.size 0 rfl (propC x A c) _ (propC_whole HBx.out) Try.underlying71 rfl (by rw [propC_len HX.out]; exact infoProp) ?_)
    generalize World.alloc w _ = w0 at HBx HB0 hs0 ⊢
    refine (HG.out _ HB0.out).mono ?_
    rintro e w1 ⟨rfl, hb1⟩
    have HB1 := Lib.hid (HB0.out.trans (hb1.mono (by omega)))
    have HBx1 := Lib.hid (HBx.out.below hb1 (by omega))
    clear hb1
    go_wp2_with fail
    go_ret2
    exact ⟨_, rfl, Own.nil_ _ _ _ _, HB1.out⟩
  | false =>
    go_enter Try.func33, Try.ntmps33
    go_wp2_with (refine wpList_load_mid rfl 71 (.tmp 1) rfl w.heap.size 0 rfl (propC x A c) _ (propC_whole HBx.out) Try.underlying71 rfl (by rw [propC_len HX.out]; exact infoProp) ?_)
    generalize World.alloc w _ = w0 at HBx HB0 hs0 ⊢
    refine (HG.out _ HB0.out).mono ?_
    rintro e w1 ⟨rfl, hb1⟩
    have HB1 := Lib.hid (HB0.out.trans (hb1.mono (by omega)))
    have HBx1 := Lib.hid (HBx.out.below hb1 (by omega))
    clear hb1
    go_wp2_with (refine wpList_load_mid rfl 71 (.tmp 1) rfl w.heap.size 0 rfl (propC x A c) _ (propC_whole HBx1.out) Try.underlying71 rfl (by rw [propC_len HX.out]; exact infoProp) ?_)
    refine (HPr.out _ HB1.out (by trivial)).mono ?_
    rintro e w2 ⟨v2, rfl, ho2, hb2⟩
    obtain ⟨A2, c2, rfl, -, -, -, -⟩ := ho2.shape' HNl.out.symm
    have HO2 := Lib.hid (ho2.less HB1.out.size)
    have HB2 := Lib.hid (HB1.out.trans (hb2.mono HB1.out.size))
    clear ho2 hb2
    go_wp2_with fail
    refine (fits_ok A2 N c2 w2 (by omega)).mono ?_
    rintro e w3 ⟨rfl, rfl⟩
    go_wp2_with fail
    go_ret2
    exact ⟨_, rfl, HO2.out, HB2.out⟩
end Go.Proofs.Ytloglpamnalmeaa
