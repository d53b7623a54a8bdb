/- CONTRACTS: burrowref09.ProposalGood, Proposal, PutProposal. -/
import Derived.Test.YtloglpamnalmeaaPropD
import Derived.Test.YtloglpamnalmeaaRefTree
namespace Go.Proofs.Ytloglpamnalmeaa
open Go.RowKit
set_option linter.unusedVariables false
set_option linter.unusedSimpArgs false

set_option maxRecDepth 100000 in
set_option maxHeartbeats 4000000 in
theorem propGood_any (x : PropD) (hx : x.Ok) {w : World} {B' : Nat} {A : Option Addr} {c : Nat} (hr : Rd cI w B' A x.leaf.um) (hB' : B' ≤ w.heap.size) :
    Calls Try.prog 78 #[.agg (propC x A c).toArray] w fun e w' => e = .returned (.bool (!propBad x)) ∧ Below w.heap.size w w' := by
  have HX := Lib.hid hx
  have HBx := Lib.hid (Blk.new w 71 (propC x A c))
  have HB0 := Lib.hid ((Below.refl w.heap.size w).alloc (Nat.le_refl _) (.cells (propC x A c).toArray 71))
  have hs0 := World.size_alloc w (.cells (propC x A c).toArray 71)
  have HNg := Lib.hid (fun W (hb : Below w.heap.size w W) => nodeGood_any x.leaf hx.leaf (c := c) (hr.below (hb.mono hB')) (by have := hb.size; omega))
  have HZr := Lib.hid (fun W => zero9_any x.leaf hx.leaf A c W)
  have HIn := Lib.hid (fun W => in9_any x.at_ 31 W)
  obtain ⟨h1, hh1⟩ : ∃ h, h = (outOf x.ep 4294967295 || outOf x.frm 31) := ⟨_, rfl⟩
  have HH := Lib.hid (fun W => headGood_any x.ep x.frm W)
  rw [← hh1] at HH
  obtain ⟨k, hk⟩ : ∃ k, k = x.kind := ⟨_, rfl⟩
  obtain ⟨nb, hnb⟩ : ∃ z, z = nodeBad x.leaf := ⟨_, rfl⟩
  obtain ⟨zl, hzl⟩ : ∃ z, z = zeroN x.leaf := ⟨_, rfl⟩
  obtain ⟨zs, hzs⟩ : ∃ z, z = (x.start == zero32) := ⟨_, rfl⟩
  obtain ⟨za, hza⟩ : ∃ z, z = (x.at_ == 0) := ⟨_, rfl⟩
  obtain ⟨oa, hoa⟩ : ∃ z, z = outOf x.at_ 31 := ⟨_, rfl⟩
  rw [← hnb] at HNg
  rw [← hzl] at HZr
  rw [← hoa] at HIn
  have ez : ∀ w, (binOp .eql 47 (.agg (x.start.map b8).toArray) (.agg (zero32.map b8).toArray)).run Try.prog w = .ok (.bool zs) w := fun w => by
    rw [hzs]; exact run_eql_b8 w 47 5 32 Try.underlying47 Try.underlying5 (fun _ => by kernel_rfl) _ _ hx.start zero32_len
  have ea : (x.at_ == 0) = za := hza.symm
  have hpb : propBad x = (h1 || (if k = 1 then nb || !za else if k = 2 then nb || !zs || !za else if k = 3 then oa || !zl || !zs else true)) := by
    unfold propBad kindBad; rw [hh1, hk, hnb, hzl, hzs, hza, hoa]
  have c32 := propC_ep HBx.out hx
  have c33 := propC_frm HBx.out hx
  have c66 := (propC_kind HBx.out hx).trans (by rw [← hk])
  have c198 := propC_at HBx.out hx
  rw [hpb]
  clear hx hh1 hk hnb hzl hzs hza hoa hr hpb
  cases h1 with
  | true =>
    go_enter Try.func78, Try.ntmps78
    go_wp2_with fail
    generalize World.alloc w _ = w0 at HBx HB0 hs0 c32 c33 c66 c198 ⊢
    refine (HH.out _).mono ?_
    rintro e w1 ⟨rfl, rfl⟩
    go_wp2_with fail
    all_goals go_ret
    all_goals exact ⟨rfl, HB0.out⟩
  | false =>
    by_cases hk1 : k = 1
    · subst hk1
      cases nb with
      | true =>
        go_enter Try.func78, Try.ntmps78
        go_wp2_with fail
        generalize World.alloc w _ = w0 at HBx HB0 hs0 c32 c33 c66 c198 ⊢
        refine (HH.out _).mono ?_
        rintro e w1 ⟨rfl, rfl⟩
        go_wp2_with (first
          | (refine wpList_load_midw (by first | rfl | go_simp) 47 (.tmp 10) rfl w.heap.size 166 rfl (x.start.map b8) _ (propC_start HBx.out HX.out) Try.underlying47 rfl (by rw [List.length_map, HX.out.start]; exact infoKeyN) ?_)
          | (refine wpList_build_atw (by first | rfl | go_simp) 47 [] rfl _ [] rfl built_key ?_)
          | (refine wpList_load_midw (by first | rfl | go_simp) 50 (.tmp 18) rfl w.heap.size 67 rfl (nodeC x.leaf A c) _ (propC_leaf HBx.out HX.out) Try.underlying50 rfl (by rw [nodeC_len HX.out.leaf]; exact infoNode) ?_))
        refine (HNg.out _ HB0.out).mono ?_
        rintro e w2 ⟨rfl, hb2⟩
        have HBx2 := Lib.hid (HBx.out.below hb2 (by omega))
        have HB2 := Lib.hid (HB0.out.trans (hb2.mono (by omega)))
        have c198 := propC_at HBx2.out HX.out
        clear hb2
        go_wp2_with fail
        go_ret
        refine ⟨?_, HB2.out⟩
        simp
      | false =>
        go_enter Try.func78, Try.ntmps78
        go_wp2_with fail
        generalize World.alloc w _ = w0 at HBx HB0 hs0 c32 c33 c66 c198 ⊢
        refine (HH.out _).mono ?_
        rintro e w1 ⟨rfl, rfl⟩
        go_wp2_with (first
          | (refine wpList_load_midw (by first | rfl | go_simp) 47 (.tmp 10) rfl w.heap.size 166 rfl (x.start.map b8) _ (propC_start HBx.out HX.out) Try.underlying47 rfl (by rw [List.length_map, HX.out.start]; exact infoKeyN) ?_)
          | (refine wpList_build_atw (by first | rfl | go_simp) 47 [] rfl _ [] rfl built_key ?_)
          | (refine wpList_load_midw (by first | rfl | go_simp) 50 (.tmp 18) rfl w.heap.size 67 rfl (nodeC x.leaf A c) _ (propC_leaf HBx.out HX.out) Try.underlying50 rfl (by rw [nodeC_len HX.out.leaf]; exact infoNode) ?_))
        refine (HNg.out _ HB0.out).mono ?_
        rintro e w2 ⟨rfl, hb2⟩
        have HBx2 := Lib.hid (HBx.out.below hb2 (by omega))
        have HB2 := Lib.hid (HB0.out.trans (hb2.mono (by omega)))
        have c198 := propC_at HBx2.out HX.out
        clear hb2
        go_wp2_with fail
        go_ret
        refine ⟨?_, HB2.out⟩
        simp
    · by_cases hk2 : k = 2
      · subst hk2
        cases nb with
        | true =>
          go_enter Try.func78, Try.ntmps78
          go_wp2_with fail
          generalize World.alloc w _ = w0 at HBx HB0 hs0 c32 c33 c66 c198 ⊢
          refine (HH.out _).mono ?_
          rintro e w1 ⟨rfl, rfl⟩
          go_wp2_with (first
            | (refine wpList_load_midw (by first | rfl | go_simp) 47 (.tmp 10) rfl w.heap.size 166 rfl (x.start.map b8) _ (propC_start HBx.out HX.out) Try.underlying47 rfl (by rw [List.length_map, HX.out.start]; exact infoKeyN) ?_)
            | (refine wpList_build_atw (by first | rfl | go_simp) 47 [] rfl _ [] rfl built_key ?_)
            | (refine wpList_load_midw (by first | rfl | go_simp) 50 (.tmp 28) rfl w.heap.size 67 rfl (nodeC x.leaf A c) _ (propC_leaf HBx.out HX.out) Try.underlying50 rfl (by rw [nodeC_len HX.out.leaf]; exact infoNode) ?_))
          refine (HNg.out _ HB0.out).mono ?_
          rintro e w2 ⟨rfl, hb2⟩
          have HBx2 := Lib.hid (HBx.out.below hb2 (by omega))
          have HB2 := Lib.hid (HB0.out.trans (hb2.mono (by omega)))
          have c198 := propC_at HBx2.out HX.out
          clear hb2
          go_wp2_with fail
          go_ret
          refine ⟨?_, HB2.out⟩
          simp
        | false =>
          cases zs with
          | true =>
            go_enter Try.func78, Try.ntmps78
            go_wp2_with fail
            generalize World.alloc w _ = w0 at HBx HB0 hs0 c32 c33 c66 c198 ⊢
            refine (HH.out _).mono ?_
            rintro e w1 ⟨rfl, rfl⟩
            go_wp2_with (first
              | (refine wpList_load_midw (by first | rfl | go_simp) 47 (.tmp 10) rfl w.heap.size 166 rfl (x.start.map b8) _ (propC_start HBx.out HX.out) Try.underlying47 rfl (by rw [List.length_map, HX.out.start]; exact infoKeyN) ?_)
              | (refine wpList_build_atw (by first | rfl | go_simp) 47 [] rfl _ [] rfl built_key ?_)
              | (refine wpList_load_midw (by first | rfl | go_simp) 50 (.tmp 28) rfl w.heap.size 67 rfl (nodeC x.leaf A c) _ (propC_leaf HBx.out HX.out) Try.underlying50 rfl (by rw [nodeC_len HX.out.leaf]; exact infoNode) ?_))
            refine (HNg.out _ HB0.out).mono ?_
            rintro e w2 ⟨rfl, hb2⟩
            have HBx2 := Lib.hid (HBx.out.below hb2 (by omega))
            have HB2 := Lib.hid (HB0.out.trans (hb2.mono (by omega)))
            have c198 := propC_at HBx2.out HX.out
            clear hb2
            go_wp2_with fail
            go_ret
            refine ⟨?_, HB2.out⟩
            simp
          | false =>
            go_enter Try.func78, Try.ntmps78
            go_wp2_with fail
            generalize World.alloc w _ = w0 at HBx HB0 hs0 c32 c33 c66 c198 ⊢
            refine (HH.out _).mono ?_
            rintro e w1 ⟨rfl, rfl⟩
            go_wp2_with (first
              | (refine wpList_load_midw (by first | rfl | go_simp) 47 (.tmp 10) rfl w.heap.size 166 rfl (x.start.map b8) _ (propC_start HBx.out HX.out) Try.underlying47 rfl (by rw [List.length_map, HX.out.start]; exact infoKeyN) ?_)
              | (refine wpList_build_atw (by first | rfl | go_simp) 47 [] rfl _ [] rfl built_key ?_)
              | (refine wpList_load_midw (by first | rfl | go_simp) 50 (.tmp 28) rfl w.heap.size 67 rfl (nodeC x.leaf A c) _ (propC_leaf HBx.out HX.out) Try.underlying50 rfl (by rw [nodeC_len HX.out.leaf]; exact infoNode) ?_))
            refine (HNg.out _ HB0.out).mono ?_
            rintro e w2 ⟨rfl, hb2⟩
            have HBx2 := Lib.hid (HBx.out.below hb2 (by omega))
            have HB2 := Lib.hid (HB0.out.trans (hb2.mono (by omega)))
            have c198 := propC_at HBx2.out HX.out
            clear hb2
            go_wp2_with fail
            go_ret
            refine ⟨?_, HB2.out⟩
            simp
      · by_cases hk3 : k = 3
        · subst hk3
          cases zl with
          | false =>
            go_enter Try.func78, Try.ntmps78
            go_wp2_with fail
            generalize World.alloc w _ = w0 at HBx HB0 hs0 c32 c33 c66 c198 ⊢
            refine (HH.out _).mono ?_
            rintro e w1 ⟨rfl, rfl⟩
            go_wp2_with (first
              | (refine wpList_load_midw (by first | rfl | go_simp) 47 (.tmp 10) rfl w.heap.size 166 rfl (x.start.map b8) _ (propC_start HBx.out HX.out) Try.underlying47 rfl (by rw [List.length_map, HX.out.start]; exact infoKeyN) ?_)
              | (refine wpList_build_atw (by first | rfl | go_simp) 47 [] rfl _ [] rfl built_key ?_)
              | (refine wpList_load_midw (by first | rfl | go_simp) 50 (.tmp 41) rfl w.heap.size 67 rfl (nodeC x.leaf A c) _ (propC_leaf HBx.out HX.out) Try.underlying50 rfl (by rw [nodeC_len HX.out.leaf]; exact infoNode) ?_))
            refine (HZr.out _).mono ?_
            rintro e w2 ⟨rfl, hb2⟩
            have HBx2 := Lib.hid (HBx.out.below hb2 (by omega))
            have HB2 := Lib.hid (HB0.out.trans (hb2.mono (by omega)))
            have c198 := propC_at HBx2.out HX.out
            clear hb2
            go_wp2_with fail
            go_ret
            refine ⟨?_, HB2.out⟩
            simp
          | true =>
            cases zs with
            | false =>
              go_enter Try.func78, Try.ntmps78
              go_wp2_with fail
              generalize World.alloc w _ = w0 at HBx HB0 hs0 c32 c33 c66 c198 ⊢
              refine (HH.out _).mono ?_
              rintro e w1 ⟨rfl, rfl⟩
              go_wp2_with (first
                | (refine wpList_load_midw (by first | rfl | go_simp) 47 (.tmp 10) rfl w.heap.size 166 rfl (x.start.map b8) _ (propC_start HBx.out HX.out) Try.underlying47 rfl (by rw [List.length_map, HX.out.start]; exact infoKeyN) ?_)
                | (refine wpList_build_atw (by first | rfl | go_simp) 47 [] rfl _ [] rfl built_key ?_)
                | (refine wpList_load_midw (by first | rfl | go_simp) 50 (.tmp 41) rfl w.heap.size 67 rfl (nodeC x.leaf A c) _ (propC_leaf HBx.out HX.out) Try.underlying50 rfl (by rw [nodeC_len HX.out.leaf]; exact infoNode) ?_))
              refine (HZr.out _).mono ?_
              rintro e w2 ⟨rfl, hb2⟩
              have HBx2 := Lib.hid (HBx.out.below hb2 (by omega))
              have HB2 := Lib.hid (HB0.out.trans (hb2.mono (by omega)))
              have c198 := propC_at HBx2.out HX.out
              clear hb2
              go_wp2_with fail
              go_ret
              refine ⟨?_, HB2.out⟩
              simp
            | true =>
              go_enter Try.func78, Try.ntmps78
              go_wp2_with fail
              generalize World.alloc w _ = w0 at HBx HB0 hs0 c32 c33 c66 c198 ⊢
              refine (HH.out _).mono ?_
              rintro e w1 ⟨rfl, rfl⟩
              go_wp2_with (first
                | (refine wpList_load_midw (by first | rfl | go_simp) 47 (.tmp 10) rfl w.heap.size 166 rfl (x.start.map b8) _ (propC_start HBx.out HX.out) Try.underlying47 rfl (by rw [List.length_map, HX.out.start]; exact infoKeyN) ?_)
                | (refine wpList_build_atw (by first | rfl | go_simp) 47 [] rfl _ [] rfl built_key ?_)
                | (refine wpList_load_midw (by first | rfl | go_simp) 50 (.tmp 41) rfl w.heap.size 67 rfl (nodeC x.leaf A c) _ (propC_leaf HBx.out HX.out) Try.underlying50 rfl (by rw [nodeC_len HX.out.leaf]; exact infoNode) ?_))
              refine (HZr.out _).mono ?_
              rintro e w2 ⟨rfl, hb2⟩
              have HBx2 := Lib.hid (HBx.out.below hb2 (by omega))
              have HB2 := Lib.hid (HB0.out.trans (hb2.mono (by omega)))
              have c198 := propC_at HBx2.out HX.out
              clear hb2
              go_wp2_with fail
              refine (HIn.out _).mono ?_
              rintro e w3 ⟨rfl, rfl⟩
              go_wp2_with fail
              go_ret
              refine ⟨?_, HB2.out⟩
              simp
        · have f1 : (k == 1) = false := by simp; omega
          have f2 : (k == 2) = false := by simp; omega
          have f3 : (k == 3) = false := by simp; omega
          rw [if_neg hk1, if_neg hk2, if_neg hk3]
          clear hk1 hk2 hk3
          go_enter Try.func78, Try.ntmps78
          go_wp2_with fail
          generalize World.alloc w _ = w0 at HBx HB0 hs0 c32 c33 c66 c198 ⊢
          refine (HH.out _).mono ?_
          rintro e w1 ⟨rfl, rfl⟩
          go_wp2_with (first
            | (refine wpList_load_midw (by first | rfl | go_simp) 47 (.tmp 10) rfl w.heap.size 166 rfl (x.start.map b8) _ (propC_start HBx.out HX.out) Try.underlying47 rfl (by rw [List.length_map, HX.out.start]; exact infoKeyN) ?_)
            | (refine wpList_build_atw (by first | rfl | go_simp) 47 [] rfl _ [] rfl built_key ?_)
            | (refine wpList_load_midw (by first | rfl | go_simp) 50 (.tmp 18) rfl w.heap.size 67 rfl (nodeC x.leaf A c) _ (propC_leaf HBx.out HX.out) Try.underlying50 rfl (by rw [nodeC_len HX.out.leaf]; exact infoNode) ?_))
          go_ret
          exact ⟨rfl, HB0.out⟩
end Go.Proofs.Ytloglpamnalmeaa
