/- CONTRACT: burrownum.Apart: lists of the call's own, no two in one row: true. -/
import Derived.Test.YtgcpjmmiciehmaaApartMem
import Derived.Test.YtgcpjmmiciehmaaInfo
namespace Go.Proofs.Ytgcpjmmiciehmaa
open Go.RowKit

theorem infoSl : (Try.prog.info? 22).map (fun i => (i.zero, i.size, i.bytes)) = some (some (.slice none 0 0), 1, 24) := by kernel_rfl
def lenV : Value → Nat
  | .slice _ n _ => n
  | _ => 0

set_option maxRecDepth 100000 in
set_option maxHeartbeats 4000000 in
theorem apart_core (vs : List Sl) (ns : Nat → Nat) (A : Option Addr) (c : Nat) (w : World) (B : Nat) (hout : Own sl w B 22 (.slice A vs.length c) vs)
    (hin : ∀ i x, vs[i]? = some x → ∃ xs, Own b8 w B 5 (sl x) xs ∧ xs.length = ns i) (hl : Lone vs) (hB : B ≤ w.heap.size) (hvs : vs.length ≤ 1000) (hns : ∀ i, ns i ≤ 140737488351232) :
    Calls Try.prog 18 #[.slice A vs.length c] w fun e w' => e = .returned (.bool true) ∧ Below B w w' := by
  obtain ⟨i0, hi0, hz0, hz1, hz2⟩ := info_parts infoU8
  obtain ⟨j0, hj0, hy0, hy1, hy2⟩ := info_parts infoSl
  go_enter Try.func18, Try.ntmps18
  go_wp2
  go_loopw [15] (fun i wr => ∃ K : Nat, K ≤ vs.length ∧ i = .int .i64 K ∧ Own sl wr B 22 (.slice A vs.length c) vs ∧ Marked B 5 vs ns wr K ∧ Below B w wr) (fun i _ => vs.length - (intOf i).toNat)
  case atStart =>
    refine ⟨0, by omega, rfl, hout, fun i x hx => ?_, Below.refl _ _⟩
    obtain ⟨xs, h1, h2⟩ := hin i x hx
    exact ⟨xs, h1, h2, fun h => absurd h (by omega)⟩
  case round =>
    obtain ⟨K, hK, rfl, ho, hm, hb⟩ := hrel
    clear hin hout
    by_cases hlt : K < vs.length
    · obtain ⟨⟨AK, nK, cK⟩, hx⟩ : ∃ x, vs[K]? = some x := ⟨_, List.getElem?_eq_getElem hlt⟩
      obtain ⟨xs, hox, hlen, -⟩ := hm K _ hx
      have hn : nK = xs.length := Own.len hox
      obtain ⟨g, cap, hv, -, hgl, -⟩ := ho.form (by omega)
      injection hv with hA hbad hc; clear hbad
      subst hA; subst hc
      have hcell := (ho.at_ (k := K) hlt).1
      rw [show vs[K] = (AK, nK, cK) from by have := hx; rw [List.getElem?_eq_getElem hlt] at this; exact Option.some.inj this] at hcell
      have hcell' : wr.cell? ⟨g, K, none⟩ = some (.slice AK nK cK) := hcell
      have hnK : nK ≤ 140737488351232 := by have := hns K; omega
      have Hn := Lib.hid hn
      have Hx := Lib.hid hx
      have Hlen := Lib.hid hlen
      have Hns := Lib.hid hns
      have Hl := Lib.hid hl
      clear hn hx hlen hcell hns hl
      go_wp2
      obtain ⟨wo, rfl⟩ : ∃ wo : World, wo = wr := ⟨_, rfl⟩
      go_loopw [22] (fun j w2 => ∃ J : Nat, J ≤ nK ∧ j = .int .i64 J ∧ Own b8 w2 B 5 (.slice AK nK cK) (patTo K J xs) ∧ wo.grownBy w2 (sl (AK, nK, cK)).ownBlock ∧ Below B w w2) (fun j _ => nK - (intOf j).toNat)
      case atStart => exact ⟨0, by omega, rfl, by rw [patTo_zero]; exact hox, World.grownBy.refl _ _, hb⟩
      case round =>
        obtain ⟨J, hJ, rfl, hoj, hgj, hbj⟩ := hrel
        by_cases hjlt : J < nK
        · obtain ⟨g2, cap2, hv, hBg, hgl2, -⟩ := hoj.form (by rw [patTo_len, ← Hn.out]; omega)
          injection hv with hA hbad hc; clear hbad
          subst hA; subst hc
          have hJl : J < (patTo K J xs).length := by rw [patTo_len, ← Hn.out]; exact hjlt
          have hc1 := (hoj.at_ (k := J) hJl).1
          have hf1 := (hoj.at_ (k := J) hJl).2
          have hst := hoj.set_ J (pat K J)
          rw [patTo_set] at hst
          have Hst := Lib.hid hst
          have hp := pat_eq K J
          clear hst
          go_wp2
          go_roundw
          case rel => exact ⟨J + 1, by omega, by go_num, Hst.out.1, grownBy_trans hgj Hst.out.2 (fun q e => by cases e; exact .inl rfl), hbj.setCell hBg _⟩
          case measure => simp [intOf]; omega
        · obtain rfl : J = nK := by omega
          go_wp2
          go_roundw
          case rel =>
            refine ⟨K + 1, by omega, by go_num, ho.kept' hgj (fun q e => ?_), hm.step Hl.out Hx.out hgj ?_, hbj⟩
            · exact Own.unlike hox ho (by decide) q e
            · have h1 := hoj
              have h2 := Hn.out
              subst h2
              rw [patTo_all, Hlen.out] at h1
              rw [Hlen.out]
              exact h1
          case measure => simp [intOf]; omega
    · obtain rfl : K = vs.length := by omega
      have hst : Grown3 B 5 vs ns wr 0 [] := hm.start
      have Hns := Lib.hid hns
      have Hl := Lib.hid hl
      clear hm hns hl hlt hK
      go_wp2
      obtain ⟨wo, rfl⟩ : ∃ wo : World, wo = wr := ⟨_, rfl⟩
      go_loopw [6, 40] (fun gv i wr => ∃ (K : Nat) (gs : List Sl), K ≤ vs.length ∧ i = .int .i64 K ∧ gs.length = K ∧ Own sl wr B 22 gv gs ∧ (∀ b : Nat, gv.ownBlock = some b → (Value.slice A vs.length c).ownBlock ≠ some b) ∧ Own sl wr B 22 (.slice A vs.length c) vs ∧ Grown3 B 5 vs ns wr K gs ∧ Below B w wr) (fun _ i _ => vs.length - (intOf i).toNat)
      case atStart =>
        refine ⟨0, [], by omega, rfl, rfl, Own.lit sl wo B 22 [] (by have := hb.size; omega) (by simp [maxLen]), fun b hb1 => ?_, ho.alloc _, hst.kept (World.grownBy_alloc wo _ none) (fun _ _ _ _ e => by cases e), by have := hb.size; exact hb.alloc (by omega) _⟩
        cases hb1
        exact ho.notBlock (Nat.le_refl _)
      case round =>
        clear ho hb hst
        obtain ⟨K, gs, hK, rfl, hgl, hg, hgo, ho, hst, hb⟩ := hrel
        have Hgl := Lib.hid hgl
        clear hgl
        by_cases hlt : K < vs.length
        · obtain ⟨⟨AK, nK, cK⟩, hx⟩ : ∃ x, vs[K]? = some x := ⟨_, List.getElem?_eq_getElem hlt⟩
          have hgro := hst.begin_ Hl.out hx
          have hn : nK = ns K := by have := hgro.now.len; rw [patL_len] at this; exact this
          obtain ⟨go, cap, hv, -, hgol, -⟩ := ho.form (by omega)
          injection hv with hA hbad hc; clear hbad
          subst hA; subst hc
          have hcell := (ho.at_ (k := K) hlt).1
          rw [show vs[K] = (AK, nK, cK) from by have := hx; rw [List.getElem?_eq_getElem hlt] at this; exact Option.some.inj this] at hcell
          have hcell' : wr.cell? ⟨go, K, none⟩ = some (.slice AK nK cK) := hcell
          have hnK : nK ≤ 140737488351232 := by have := Hns.out K; omega
          have Hn := Lib.hid hn
          have Hx := Lib.hid hx
          have Hg := Lib.hid hg
          have Hgo := Lib.hid hgo
          have Ho := Lib.hid ho
          have Hst := Lib.hid hst
          have Hgro := Lib.hid hgro
          clear hn hx hcell hg hgo ho hst hgro
          go_wp2
          obtain ⟨w1, rfl⟩ : ∃ w1 : World, w1 = wr := ⟨_, rfl⟩
          go_loopw [8] (fun lv w2 => ∃ (Ay : Option Addr) (m cy : Nat), lv = .slice Ay m cy ∧ nK ≤ m ∧ m ≤ nK + 10 ∧ Growing B 5 vs ns w2 K gs (Ay, m, cy) m ∧ Own sl w2 B 22 u6 gs ∧ Own sl w2 B 22 (.slice (some ⟨go, 0, none⟩) vs.length c) vs ∧ Below B w w2) (fun lv _ => nK + 10 - lenV lv)
          case atStart => exact ⟨AK, nK, cK, rfl, by omega, by omega, by have := Hgro.out; rw [← Hn.out] at this; exact this, Hg.out, Ho.out, hb⟩
          case round =>
            obtain ⟨Ay, m, cy, rfl, hm1, hm2, hgr2, hg2, ho2, hb2⟩ := hrel
            have Hgr2 := Lib.hid hgr2
            have Hg2 := Lib.hid hg2
            have Ho2 := Lib.hid ho2
            have hBw := hb2.size
            clear hgr2 hg2 ho2
            by_cases hm : m < nK + 10
            · have hp := pat_eq K m
              go_wp2_with (at_builtin; refine wpList_append_rd rfl _ _ 22 rfl b8_one B 5 i0 _ 1 Try.underlying22 hi0 hz0 hz1 hz2 rfl _ (patL K m) rfl (Hgr2.out.now.alloc _) (wr.heap.size + 1) _ 1 1 [pat K m] rfl rfl (Rd.new b8 _ _ [pat K m]) (by rw [patL_len]; simp [maxLen]; omega) (by rw [patL_len]; simp; omega) (by (first | omega | (simp; done) | (simp; omega) | (simp at *; omega))) ?_; intro v7 w7 hown7 hg7 hbb7; have Hown7 := Lib.hid hown7; have Hg7 := Lib.hid hg7; have Hbb7 := Lib.hid hbb7; clear hown7 hg7 hbb7; obtain ⟨A7, c7, rfl, -, -, -, -⟩ := Hown7.out.sl_)
              go_roundw
              case rel =>
                have hk := Hgr2.out.kept (World.grownBy_alloc wr (.cells #[.int .u8 (bv (pat K m))] 5) none) (fun _ _ _ _ e => by cases e)
                have hs := hk.step (y' := (A7, (patL K m ++ [pat K m]).length, c7)) (by rw [← Hn.out]; exact hm1) (by rw [patL_succ]; exact Hown7.out) Hg7.out
                have hl7 : (patL K m ++ [pat K m]).length = m + 1 := by rw [List.length_append, patL_len]; rfl
                refine ⟨A7, m + 1, c7, by simp [sl, patL_len], by omega, by omega, by rw [hl7] at hs; exact hs, ?_, ?_, Hbb7.out _ _ (Nat.le_refl _) (by (repeat' (first | assumption | exact Below.refl _ _ | refine Below.drew ?_ | refine Below.alloc ?_ ?_ _ | omega | (simp; done) | (simp; omega))))⟩
                · exact (Hg2.out.alloc _).kept' Hg7.out.by_ (fun q e => Own.unlike hk.now (Hg2.out.alloc _) (by decide) q e)
                · exact (Ho2.out.alloc _).kept' Hg7.out.by_ (fun q e => Own.unlike hk.now (Ho2.out.alloc _) (by decide) q e)
              case measure => simp [lenV, sl, patL_len]; omega
            · obtain rfl : m = nK + 10 := by omega
              have hnew := Hgr2.out
              rw [Hn.out] at hnew
              have hend := hnew.end_ Hgl.out
              have Hend := Lib.hid hend
              have hgsl : gs.length ≤ 1000 := by have := Hgl.out; omega
              clear hend hnew
              go_wp2_with (at_builtin; refine wpList_append_rd rfl _ _ 26 rfl sl_one B 22 j0 _ 24 Try.underlying26 hj0 hy0 hy1 hy2 rfl _ gs rfl (Hg2.out.alloc _) (wr.heap.size + 1) _ 1 1 [(Ay, nK + 10, cy)] rfl rfl (Rd.new sl _ _ [(Ay, nK + 10, cy)]) (by simp [maxLen]; omega) (by simp; omega) (by (first | omega | (simp; done) | (simp; omega) | (simp at *; omega))) ?_; intro v7 w7 hown7 hg7 hbb7; have Hown7 := Lib.hid hown7; have Hg7 := Lib.hid hg7; have Hbb7 := Lib.hid hbb7; clear hown7 hg7 hbb7)
              go_roundw
              case rel =>
                have hto := Ho2.out
                refine ⟨K + 1, gs ++ [(Ay, nK + 10, cy)], by omega, by go_num, by rw [List.length_append, Hgl.out]; rfl, Hown7.out, fun b hb7 => ?_, ?_, ?_, Hbb7.out _ _ (Nat.le_refl _) (by (repeat' (first | assumption | exact Below.refl _ _ | refine Below.drew ?_ | refine Below.alloc ?_ ?_ _ | omega | (simp; done) | (simp; omega))))⟩
                · rcases Hg7.out.at_ with e | e
                  · rw [e] at hb7; exact Hgo.out b hb7
                  · rw [e] at hb7; cases hb7; exact (Ho2.out.alloc _).notBlock (Nat.le_refl _)
                · exact (Ho2.out.alloc _).kept' Hg7.out.by_ (fun q e => Hgo.out q e)
                · have h1 := Hend.out
                  rw [← Hn.out] at h1
                  have h2 := h1.kept (World.grownBy_alloc wr (.cells #[.slice Ay (nK + 10) cy] 22) none) (fun _ _ _ _ e => by cases e)
                  exact h2.kept Hg7.out.by_ (fun x xs hx q e => Own.unlike (Hg2.out.alloc _) hx (by decide) q e)
              case measure => simp [intOf]; omega
        · obtain rfl : K = vs.length := by omega
          obtain ⟨gA, gc, rfl, -, -, -, -⟩ := hg.shape
          have Hg := Lib.hid hg
          have Ho := Lib.hid ho
          have Hst := Lib.hid hst
          have hgsl : gs.length ≤ 1000 := by have := Hgl.out; omega
          clear hg ho hst hgo hlt hK
          go_wp2
          obtain ⟨w1, rfl⟩ : ∃ w1 : World, w1 = wr := ⟨_, rfl⟩
          go_loopw [70] (fun i wr => ∃ K : Nat, K ≤ gs.length ∧ i = .int .i64 K ∧ Own sl wr B 22 (.slice gA gs.length gc) gs ∧ Own sl wr B 22 (.slice A vs.length c) vs ∧ Grown3 B 5 vs ns wr vs.length gs ∧ Below B w wr) (fun i _ => gs.length - (intOf i).toNat)
          case atStart => exact ⟨0, by omega, rfl, Hg.out, Ho.out, Hst.out, hb⟩
          case round =>
            clear Hg Ho Hst hb
            obtain ⟨K, hK, rfl, hg, ho, hst, hb⟩ := hrel
            by_cases hlt : K < gs.length
            · obtain ⟨⟨AK, nK, cK⟩, hx⟩ : ∃ x, gs[K]? = some x := ⟨_, List.getElem?_eq_getElem hlt⟩
              have hltv : K < vs.length := by rw [← Hgl.out]; exact hlt
              obtain ⟨⟨XA, xn, xc⟩, hxv⟩ : ∃ x, vs[K]? = some x := ⟨_, List.getElem?_eq_getElem hltv⟩
              have hog := hst.grown K _ hx
              have hov := hst.own K _ hxv
              have hn : nK = ns K + 10 := by have := hog.len; rw [patL_len] at this; exact this
              have hnx : xn = ns K := by have := hov.len; rw [patL_len] at this; exact this
              obtain ⟨gg, cap, hv, -, hggl, -⟩ := hg.form (by omega)
              injection hv with hA hbad hc; clear hbad
              subst hA; subst hc
              obtain ⟨go, cap, hv, -, hgol, -⟩ := ho.form (by omega)
              injection hv with hA hbad hc; clear hbad
              subst hA; subst hc
              have hcell := (hg.at_ (k := K) hlt).1
              rw [show gs[K] = (AK, nK, cK) from by have := hx; rw [List.getElem?_eq_getElem hlt] at this; exact Option.some.inj this] at hcell
              have hcell' : wr.cell? ⟨gg, K, none⟩ = some (.slice AK nK cK) := hcell
              have hnK : nK ≤ 140737488351242 := by have := Hns.out K; omega
              have hxK : xn ≤ 140737488351232 := by have := Hns.out K; omega
              have hxnK : xn ≤ nK := by omega
              have Hn := Lib.hid hn
              have Hnx := Lib.hid hnx
              have Hx := Lib.hid hx
              have Hxv := Lib.hid hxv
              have Hg := Lib.hid hg
              have Ho := Lib.hid ho
              have Hst := Lib.hid hst
              clear hn hnx hx hxv hcell hg ho hst hog hov
              go_wp2
              obtain ⟨w3, rfl⟩ : ∃ w3 : World, w3 = wr := ⟨_, rfl⟩
              go_loopw [77] (fun j w2 => ∃ J : Nat, J ≤ nK ∧ j = .int .i64 J ∧ Own sl w2 B 22 (.slice (some ⟨gg, 0, none⟩) gs.length gc) gs ∧ Own sl w2 B 22 (.slice (some ⟨go, 0, none⟩) vs.length c) vs ∧ Grown3 B 5 vs ns w2 vs.length gs ∧ Below B w w2) (fun j _ => nK - (intOf j).toNat)
              case atStart => exact ⟨0, by omega, rfl, Hg.out, Ho.out, Hst.out, hb⟩
              case round =>
                obtain ⟨J, hJ, rfl, hg2, ho2, hst2, hb2⟩ := hrel
                have Hg2 := Lib.hid hg2
                have Ho2 := Lib.hid ho2
                have Hst2 := Lib.hid hst2
                by_cases hjlt : J < nK
                · have hog := hst2.grown K _ Hx.out
                  have hov := hst2.own K _ Hxv.out
                  obtain ⟨g2, cap2, hv, -, hgl2, -⟩ := hog.form (by rw [patL_len, ← Hn.out]; omega)
                  injection hv with hA hbad hc; clear hbad
                  simp only at hA hc
                  subst hA; subst hc
                  have hJl : J < (patL K (ns K + 10)).length := by rw [patL_len, ← Hn.out]; exact hjlt
                  have hc1 : wr.cell? ⟨g2, J, none⟩ = some (.int .u8 (bv (pat K J))) := by
                    have := (hog.at_ (k := J) hJl).1
                    rw [patL_at _ _ _ (by rw [← Hn.out]; exact hjlt)] at this
                    exact this
                  have hc2 : wr.cell? ⟨go, K, none⟩ = some (.slice XA xn xc) := by
                    have h := (ho2.at_ (k := K) hltv).1
                    rw [show vs[K] = (XA, xn, xc) from by have := Hxv.out; rw [List.getElem?_eq_getElem hltv] at this; exact Option.some.inj this] at h
                    exact h
                  have hp := pat_eq K J
                  by_cases hjx : J < xn
                  · obtain ⟨g3, cap3, hv, -, hgl3, -⟩ := hov.form (by rw [patL_len, ← Hnx.out]; omega)
                    injection hv with hA hbad hc; clear hbad
                    simp only at hA hc
                    subst hA; subst hc
                    have hJl3 : J < (patL K (ns K)).length := by rw [patL_len, ← Hnx.out]; exact hjx
                    have hc3 : wr.cell? ⟨g3, J, none⟩ = some (.int .u8 (bv (pat K J))) := by
                      have := (hov.at_ (k := J) hJl3).1
                      rw [patL_at _ _ _ (by rw [← Hnx.out]; exact hjx)] at this
                      exact this
                    clear hg2 ho2 hst2 hog hov
                    go_wp2_with fail
                    go_quiet (fail)
                    go_wp2
                    go_roundw
                    case rel =>
                      exact ⟨J + 1, by omega, by go_num, Hg2.out.drewN _, Ho2.out.drewN _, Hst2.out.drewN _, below_drewN hb2 _⟩
                    case measure => simp [intOf]; omega
                  · have hd : decide (J < xn) = false := by simp; omega
                    clear hg2 ho2 hst2 hog hov hjx
                    go_wp2_with fail
                    go_quiet (fail)
                    go_wp2
                    go_roundw
                    case rel =>
                      exact ⟨J + 1, by omega, by go_num, Hg2.out.drewN _, Ho2.out.drewN _, Hst2.out.drewN _, below_drewN hb2 _⟩
                    case measure => simp [intOf]; omega
                · obtain rfl : J = nK := by omega
                  clear hg2 ho2 hst2
                  go_wp2
                  go_roundw
                  case rel => exact ⟨K + 1, by omega, by go_num, Hg2.out, Ho2.out, Hst2.out, hb2⟩
                  case measure => simp [intOf]; omega
            · obtain rfl : K = gs.length := by omega
              clear hg ho hst
              go_wp2
              go_ret
              exact ⟨rfl, hb⟩
theorem apart_any (vs : List Sl) (ns : Nat → Nat) (A : Option Addr) (n c : Nat) (w : World) (B : Nat) (hn : vs.length = n) (hout : Own sl w B 22 (.slice A n c) vs)
    (hin : ∀ i x, vs[i]? = some x → ∃ xs, Own b8 w B 5 (sl x) xs ∧ xs.length = ns i) (hl : Lone vs) (hB : B ≤ w.heap.size) (hvs : vs.length ≤ 1000) (hns : ∀ i, ns i ≤ 140737488351232) :
    Calls Try.prog 18 #[.slice A n c] w fun e w' => e = .returned (.bool true) ∧ Below B w w' := by
  subst hn
  exact apart_core vs ns A c w B hout hin hl hB hvs hns
end Go.Proofs.Ytgcpjmmiciehmaa
