/- LinkPlays, the walk: what any link comes to, by any script. -/
import Derived.Test.YtkoefhbmkmepaaaOpsL
import Derived.Test.YtkoefhbmkmepaaaLinkB
import Derived.Test.YtkoefhbmkmepaaaLinkG
import Derived.Test.YtkoefhbmkmepaaaLinkRT
import Derived.Test.YtkoefhbmkmepaaaCopy
namespace Go.Proofs.Ytkoefhbmkmepaaa
open Go.RowKit
set_option linter.unusedVariables false
set_option linter.unusedSimpArgs false

/-- an Op in its box -/
def OBox (w : World) (o : Nat) (x : OpD) : Prop := Arr (fun v : Value => v) w o 57 x.cells
theorem OBox.new (w : World) (x : OpD) : OBox (w.alloc (.cells #[.int .i64 x.kd, .slice x.A x.n x.c, .int .i64 x.num, .int .u8 (bv x.bt)] 57)) w.heap.size x :=
  Arr.new (fun v : Value => v) w 57 x.cells
theorem OBox.below {w w' : World} {o B : Nat} {x : OpD} (h : OBox w o x) (hb : Below B w w') (ho : o < B) : OBox w' o x := Arr.below h hb ho
theorem OBox.grown {w w' : World} {o : Nat} {x : OpD} {row : Option Nat} (h : OBox w o x) (hb : w.grownBy w' row) (ho : some o ≠ row) : OBox w' o x := Arr.grown h hb ho
theorem OBox.c0 {w : World} {o : Nat} {kd num : Int} {T : Option Addr} {m d : Nat} {text : List (BitVec 8)} {bt : BitVec 8} (h : OBox w o ⟨kd, T, m, d, text, num, bt⟩) : w.cell? ⟨o, 0, none⟩ = some (.int .i64 kd) := Arr.at_ h (k := 0) rfl
theorem OBox.c1 {w : World} {o : Nat} {kd num : Int} {T : Option Addr} {m d : Nat} {text : List (BitVec 8)} {bt : BitVec 8} (h : OBox w o ⟨kd, T, m, d, text, num, bt⟩) : w.cell? ⟨o, 1, none⟩ = some (.slice T m d) := Arr.at_ h (k := 1) rfl
theorem OBox.c2 {w : World} {o : Nat} {kd num : Int} {T : Option Addr} {m d : Nat} {text : List (BitVec 8)} {bt : BitVec 8} (h : OBox w o ⟨kd, T, m, d, text, num, bt⟩) : w.cell? ⟨o, 2, none⟩ = some (.int .i64 num) := Arr.at_ h (k := 2) rfl
theorem OBox.c3 {w : World} {o : Nat} {kd num : Int} {T : Option Addr} {m d : Nat} {text : List (BitVec 8)} {bt : BitVec 8} (h : OBox w o ⟨kd, T, m, d, text, num, bt⟩) : w.cell? ⟨o, 3, none⟩ = some (.int .u8 (bv bt)) := Arr.at_ h (k := 3) rfl
theorem rd_grown' {w w' : World} {A : Option Addr} {M : List (BitVec 8)} {row : Option Nat} (h : Rd b8 w w.heap.size A M) (hg : w.grownBy w' row) (hA : M = [] ∨ ∀ a : Addr, A = some a → some a.block ≠ row) : Rd b8 w' w'.heap.size A M := by
  rcases hA with rfl | hA
  · exact Rd.nil_ _ _ _ _
  · exact (h.grown hg (Nat.le_refl _) hA).more hg.size
theorem ls_rs (m nx : Nat) : rsBad m (nx : Int) = lsBad m nx := by
  unfold rsBad lsBad
  by_cases h : 65536 < m
  · rw [if_pos h, if_pos h]
  · rw [if_neg h, if_neg h]
    by_cases h2 : 4294967295 ≤ nx
    · rw [if_pos h2, if_pos (by omega)]
    · rw [if_neg h2, if_neg (by omega)]
theorem Inv.hib {L : List Int} {t : Bool} {h : Int} {s : BitVec 64} (x : Inv L t h s) : -1 ≤ hiL L ∧ hiL L ≤ 4294967295 := by
  rw [← x.hi]
  cases t with
  | false => simp
  | true => have := x.bound rfl; simp; omega
set_option maxRecDepth 100000 in
set_option maxHeartbeats 20000000 in
theorem linkPlays_walk (ka : List (BitVec 8)) (hka : ka.length = 32) (kb : List (BitVec 8)) (hkb : kb.length = 32) (A : Option Addr) (n c : Nat) (xs : List OpD) {W : World} (hr : RdV W W.heap.size A (xs.flatMap OpD.cells)) (hp : ∀ x ∈ xs, OpOk W x) (hn : xs.length = n) :
    Calls Try.prog 7 #[.agg (ka.map b8).toArray, .agg (kb.map b8).toArray, .slice A n c] W fun e w' => e = .returned (.bool true) ∧ Below W.heap.size W w' := by
  obtain ⟨i0, hi0, hz0, hz1, hz2⟩ := info_parts infoInt
  have HKa := Lib.hid hka
  have HKb := Lib.hid hkb
  have HR := Lib.hid hr
  have HP := Lib.hid hp
  have HN := Lib.hid hn
  have HA := Lib.hid ((Arr.new b8 W 39 ka).alloc (.cells (kb.map b8).toArray 39))
  have HB := Lib.hid (show Arr b8 ((W.alloc (.cells (ka.map b8).toArray 39)).alloc (.cells (kb.map b8).toArray 39)) (W.heap.size + 1) 39 kb from Arr.at_size b8 _ kb (by simp))
  have HB0 := Lib.hid (show Below W.heap.size W ((W.alloc (.cells (ka.map b8).toArray 39)).alloc (.cells (kb.map b8).toArray 39)) by (repeat' (first | assumption | exact Below.refl _ _ | refine Below.drew ?_ | refine Below.alloc ?_ ?_ _ | omega | (simp; done) | (simp; omega))))
  have hzz : ((W.alloc (.cells (ka.map b8).toArray 39)).alloc (.cells (kb.map b8).toArray 39)).heap.size = W.heap.size + 2 := by simp
  clear hka hkb hr hp hn
  go_enter Try.func7, Try.ntmps7
  go_wp2_with fail
  generalize hW0 : World.alloc (World.alloc W _) _ = W0 at HA HB HB0 hzz ⊢
  clear hW0
  refine (alive12_any _).mono ?_
  rintro e w1 ⟨rfl, hb1⟩
  have hs1 := hb1.size
  have HA1 := Lib.hid (HA.out.below hb1 (by omega))
  have HB1 := Lib.hid (HB.out.below hb1 (by omega))
  have HY1 := Lib.hid (HB0.out.trans (hb1.mono (by omega)))
  clear hb1 HA HB HB0
  go_wp2_with fail
  refine (large12_any w1 A n c xs ((HR.out.below HY1.out).more (by omega)) HN.out).mono ?_
  rintro e w2 ⟨B, rfl, hB, hb2⟩
  have hs2 := hb2.size
  have HA2 := Lib.hid (HA1.out.below hb2 (by omega))
  have HB2 := Lib.hid (HB1.out.below hb2 (by omega))
  have HY2 := Lib.hid (HY1.out.trans (hb2.mono (by omega)))
  clear hb2 HA1 HB1 HY1
  cases B with
  | true =>
    go_wp2_with fail
    go_ret
    exact ⟨rfl, HY2.out⟩
  | false =>
    have hn61 := (hB rfl).1
    clear hB
    go_wp2_with (first
      | (refine wpList_load_arr (op := { dst := some 29, op := _, type := _, pos := _, after := _, guard := _ }) rfl 39 (.tmp 3) rfl W.heap.size rfl _ ka HA2.out _ Try.underlying39 rfl (by rw [HKa.out]; exact size32k) ?_)
      | (refine wpList_load_arr (op := { dst := some 30, op := _, type := _, pos := _, after := _, guard := _ }) rfl 39 (.tmp 4) rfl (W.heap.size + 1) rfl _ kb HB2.out _ Try.underlying39 rfl (by rw [HKb.out]; exact size32k) ?_)
      | (go_at_call 17; refine (lnew_any w2 ka kb HKa.out HKb.out).mono ?_; rintro e w3 ⟨gl, rfl, hgl, hx3, hb3⟩; have hs3 := hb3.size; have hgl2 := hx3.lt; have HX3 := Lib.hid hx3; have HY3 := Lib.hid (HY2.out.trans (hb3.mono (by omega))); have HA3 := Lib.hid (HA2.out.below hb3 (by omega)); have HB3 := Lib.hid (HB2.out.below hb3 (by omega)); clear hx3 hb3)
      | (go_at_call 22; refine (lhighest_any w3 gl _ _ _ _ _ _ HX3.out).mono ?_; rintro e w' ⟨rfl, rfl⟩)
      | (go_at_call 21; refine (lnext_any w3 gl _ _ _ _ _ _ HX3.out).mono ?_; rintro e w' ⟨rfl, rfl⟩))
    have hgl4 : W.heap.size + 2 ≤ gl := by omega
    clear HA2 HB2 HY2 hs1 hs2
    obtain ⟨w0, hw0⟩ : ∃ w0, w0 = w3 := ⟨_, rfl⟩
    have hz3 : w3.heap.size = w0.heap.size := by rw [hw0]
    have HQ0 := Lib.hid (show Below (W.heap.size + 2) w0 w3 by rw [hw0]; exact Below.refl _ _)
    rw [← hw0] at HA3 HB3 HY3
    have hgl3 : gl < w0.heap.size := by omega
    clear hw0
    go_loopw [8, 9, 47] (fun v8 v9 i wr => ∃ (k nx : Nat) (L : List Int) (t : Bool) (h : Int) (s : BitVec 64), k ≤ n ∧ i = .int .i64 (k : Int) ∧ v8 = .int .i64 (nx : Int) ∧ nx ≤ 4294967295 ∧ Own i64v wr w0.heap.size 3 v9 L ∧ L.length ≤ k ∧ Inv L t h s ∧ LinkAt wr gl t h s ka kb (nx : Int) ∧ Below (W.heap.size + 2) w0 wr ∧ w0.heap.size ≤ wr.heap.size) (fun _ _ i _ => n - (intOf i).toNat)
    case atStart =>
      refine ⟨0, 0, [], false, 0, 0#64, by omega, rfl, rfl, by omega, ?_, by simp, Inv.start, HX3.out.keep (Below.heap_alloc w3 _ gl HX3.out.lt), HQ0.out.alloc (by omega) _, by rw [World.size_alloc]; omega⟩
      have := Own.lit i64v w3 w0.heap.size 3 [] (by omega) (by simp [maxLen])
      exact this
    case round =>
      clear HX3 HQ0 hz3
      obtain ⟨k, nx, L, t, h, s, hk, rfl, rfl, hnx, ho, hLk, hI, hx, hq, hs⟩ := hrel
      by_cases hlt : k < n
      · obtain ⟨x, hxk⟩ : ∃ x, xs[k]? = some x := ⟨_, List.getElem?_eq_getElem (by rw [HN.out]; exact hlt)⟩
        have hok := HP.out x (List.mem_of_getElem? hxk)
        have hbW : Below W.heap.size W wr := HY3.out.trans (hq.mono (by omega))
        obtain ⟨b, off, rfl, hbB, hra⟩ := HR.out.elem (K := 4) (fun _ _ => rfl) (by decide) hxk
        obtain ⟨kd, T, m, d, text, num, bt⟩ := x
        have hra' : ∀ j v, (OpD.cells ⟨kd, T, m, d, text, num, bt⟩)[j]? = some v → wr.cell? ⟨b, off + k * 4 + j, none⟩ = some v := fun j v hv => (hbW.cell (p := ⟨b, off + k * 4 + j, none⟩) hbB).trans (by rw [show off + k * 4 + j = off + 4 * k + j by omega]; exact hra j v hv)
        have c0 : wr.cell? ⟨b, off + k * 4, none⟩ = some (.int .i64 kd) := hra' 0 _ rfl
        have c1 : wr.cell? ⟨b, off + k * 4 + 1, none⟩ = some (.slice T m d) := hra' 1 _ rfl
        have c2 : wr.cell? ⟨b, off + k * 4 + 2, none⟩ = some (.int .i64 num) := hra' 2 _ rfl
        have c3 : wr.cell? ⟨b, off + k * 4 + 3, none⟩ = some (.int .u8 (bv bt)) := hra' 3 _ rfl
        have HRt := Lib.hid (show Rd b8 W W.heap.size T text from hok.rd)
        have HM := Lib.hid (show text.length = m from hok.len)
        have hmd : m ≤ d := hok.le
        have hdm : d ≤ maxLen := hok.mx
        have hmz : m ≤ 140737488351232 := hok.sz
        have HI := Lib.hid hI
        obtain ⟨lL, hlL⟩ : ∃ l, L.length = l := ⟨_, rfl⟩
        rw [hlL] at hLk
        have HlL := Lib.hid hlL
        obtain ⟨Av, cv, rfl, -, -, -, -⟩ := ho.shape' hlL
        clear hlL
        have HBo := Lib.hid (show OBox (wr.alloc (.cells #[.int .i64 kd, .slice T m d, .int .i64 num, .int .u8 (bv bt)] 57)) wr.heap.size ⟨kd, T, m, d, text, num, bt⟩ from OBox.new wr ⟨kd, T, m, d, text, num, bt⟩)
        have HXo := Lib.hid (show LinkAt (wr.alloc (.cells #[.int .i64 kd, .slice T m d, .int .i64 num, .int .u8 (bv bt)] 57)) gl t h s ka kb (nx : Int) from hx.keep (Below.heap_alloc wr _ gl hx.lt))
        have HOo := Lib.hid (ho.alloc (.cells #[.int .i64 kd, .slice T m d, .int .i64 num, .int .u8 (bv bt)] 57))
        have HQo := Lib.hid (hq.alloc (show W.heap.size + 2 ≤ wr.heap.size by omega) (.cells #[.int .i64 kd, .slice T m d, .int .i64 num, .int .u8 (bv bt)] 57))
        have hso : (wr.alloc (.cells #[.int .i64 kd, .slice T m d, .int .i64 num, .int .u8 (bv bt)] 57)).heap.size = wr.heap.size + 1 := by simp
        clear hok hbW hra hra' hxk ho hI hx hq
        go_wp2_with fail
        generalize hwo : wr.alloc (.cells #[.int .i64 kd, .slice T m d, .int .i64 num, .int .u8 (bv bt)] 57) = wo at HBo HXo HOo HQo hso ⊢
        clear hwo c0 c1 c2 c3
        obtain ⟨o, ho⟩ : ∃ o, o = wr.heap.size := ⟨_, rfl⟩
        rw [← ho] at HBo hso hs ⊢
        clear ho
        have hso1 : o < wo.heap.size := by omega
        have hso2 : w0.heap.size ≤ wo.heap.size := by omega
        have hog : gl ≠ o := by omega
        clear hso hs
        have HTo := Lib.hid (show Rd b8 wo wo.heap.size T text from (HRt.out.below (HY3.out.trans (HQo.out.mono (by omega)))).more (by omega))
        refine (copy_any d HTo.out (Nat.le_refl _) HM.out hmz).mono ?_
        rintro e wc ⟨vc, rfl, hcp, hbc⟩
        have hsc := hbc.size
        have HBc := Lib.hid (HBo.out.below hbc hso1)
        have HXc := Lib.hid (HXo.out.below hbc HXo.out.lt)
        have HOc := Lib.hid (HOo.out.below hbc (Nat.le_refl _))
        have HQc := Lib.hid (HQo.out.trans (hbc.mono (by omega)))
        have HTc := Lib.hid ((HTo.out.below hbc).more hsc)
        obtain ⟨gc, cc, rfl, hgc1, hgc2, -, -⟩ := hcp.shape' HM.out
        have HCc := Lib.hid hcp
        clear hcp hbc HBo HXo HOo HQo HTo
        by_cases hk0 : kd = 0
        · subst hk0
          have hls := lsendG_any wc gl t h s ka kb nx HXc.out (some ⟨gc, 0, none⟩) m cc wc.heap.size text HCc.out.own.rd (Nat.le_refl _) HM.out
          obtain ⟨r, hr⟩ : ∃ r, r = lsBad m nx := ⟨_, rfl⟩
          rw [← hr] at hls
          obtain ⟨V, hV⟩ : ∃ V, V = (if r = 0 then msgV ka nx text else []) := ⟨_, rfl⟩
          rw [← hV] at hls
          obtain ⟨lV, hlV⟩ : ∃ l, V.length = l := ⟨_, rfl⟩
          have HLs := Lib.hid hls
          have HRs := Lib.hid (show ∀ w' : World, Rd b8 w' w'.heap.size T text → Calls Try.prog 26 #[.agg (ka.map b8).toArray, .int .i64 (nx : Int), .slice T m d] w' fun e w'' => ∃ v, e = .returned (.tuple #[v, .int .i64 (r : Int)]) ∧ Own b8 w'' w'.heap.size 5 v V ∧ Below w'.heap.size w' w'' from fun w' hT => by
            have q := refLSend_any w' ka HKa.out (nx : Int) T m d w'.heap.size text hT (Nat.le_refl _) HM.out
            rw [ls_rs, ← hr, Int.toNat_natCast, ← hV] at q
            exact q)
          have HRb := Lib.hid (show r = 0 → nx + 1 ≤ 4294967295 from fun h0 => by
            rw [hr] at h0
            unfold lsBad at h0
            split at h0
            · cases h0
            · split at h0
              · cases h0
              · omega)
          have HV := Lib.hid hlV
          clear hls hr hV hlV
          have c0 := HBc.out.c0
          go_wp2_with fail
          refine HLs.out.mono ?_
          rintro e w4 ⟨v4, rfl, ho4, hx4, hg4⟩
          have hs4 := hg4.size
          obtain ⟨A4, c4, rfl, hr4, -, -, -⟩ := ho4.shape' HV.out
          have HS4 := Lib.hid hr4
          have HX4 := Lib.hid hx4
          have HB4 := Lib.hid (HBc.out.grown hg4 (fun e => by injection e; omega))
          have HO4 := Lib.hid (HOc.out.kept' hg4 (fun q e h' => by cases e; have := (HOc.out.lt _ h').1; omega))
          have HQ4 := Lib.hid (HQc.out.grown hg4 (by omega) (fun q e => by cases e; omega))
          have HC4 := Lib.hid (HCc.out.kept hg4 (.inr (fun e => by simp [Value.ownBlock] at e; omega)))
          have HT4 := Lib.hid (show Rd b8 w4 w4.heap.size T text from (HRt.out.below (HY3.out.trans (HQ4.out.mono (by omega)))).more (by omega))
          have HA4 := Lib.hid (HA3.out.below HQ4.out (by omega))
          have c1 := HB4.out.c1
          clear ho4 hr4 hx4 hg4 c0 HBc HXc HOc HQc HTc HCc HLs
          by_cases hr0 : r = 0
          · subst hr0
            have hn1 := HRb.out rfl
            have HX4 := Lib.hid (show LinkAt w4 gl t h s ka kb ((nx : Int) + 1) from by have q := HX4.out; rwa [if_pos rfl] at q)
            go_wp2_with (first
              | (refine wpList_load_arr (op := { dst := some 137, op := _, type := _, pos := _, after := _, guard := _ }) rfl 39 (.tmp 3) rfl W.heap.size rfl _ ka HA4.out _ Try.underlying39 rfl (by rw [HKa.out]; exact size32k) ?_)
              | (go_at_call 26; refine (HRs.out w4 HT4.out).mono ?_; rintro e w5 ⟨v5, rfl, ho5, hb5⟩; have hs5 := hb5.size; obtain ⟨A5, c5, rfl, hr5, -, -, -⟩ := ho5.shape' HV.out; have HS5 := Lib.hid hr5; have HS45 := Lib.hid ((HS4.out.below hb5).more hs5); have HX5 := Lib.hid (HX4.out.below hb5 HX4.out.lt); have c1' := (HB4.out.below hb5 (by omega)).c1; have HO5 := Lib.hid (HO4.out.below hb5 (Nat.le_refl _)); have HQ5 := Lib.hid (HQ4.out.trans (hb5.mono (by omega))); have HC5 := Lib.hid (HC4.out.below hb5 (Nat.le_refl _)); have HT5 := Lib.hid ((HT4.out.below hb5).more hs5); clear ho5 hr5 hb5)
              | (go_at_call 20; refine (same_any _ _ HS45.out HS5.out HV.out HV.out).mono ?_; rintro e w' ⟨rfl, rfl⟩; rw [beq_self_eq_true])
              | (go_at_call 10; refine (num_any 0 _).mono ?_; rintro e w' ⟨rfl, rfl⟩)
              | (go_at_call 27; refine (kept_any d HC5.out HT5.out HM.out rfl hmz).mono ?_; rintro e w' ⟨rfl, rfl⟩)
              | (go_at_call 21; refine (lnext_any w5 gl _ _ _ _ _ _ HX5.out).mono ?_; rintro e w' ⟨rfl, rfl⟩))
            go_roundw
            case rel => exact ⟨k + 1, nx + 1, L, t, h, s, by omega, by go_num, by simp, hn1, HO5.out, by rw [HlL.out]; omega, HI.out, by rw [Int.natCast_add]; exact HX5.out, HQ5.out, by omega⟩
            case measure => simp [intOf]; omega
          · have HR0 := Lib.hid hr0
            have hrn : ((r : Int) == 0) = false := by simp; omega
            have hrn2 : (r = 0) = False := by simp [hr0]
            clear hr0
            go_wp2_with (first
              | (refine wpList_load_arr (op := { dst := some 137, op := _, type := _, pos := _, after := _, guard := _ }) rfl 39 (.tmp 3) rfl W.heap.size rfl _ ka HA4.out _ Try.underlying39 rfl (by rw [HKa.out]; exact size32k) ?_)
              | (go_at_call 26; refine (HRs.out w4 HT4.out).mono ?_; rintro e w5 ⟨v5, rfl, ho5, hb5⟩; have hs5 := hb5.size; obtain ⟨A5, c5, rfl, hr5, -, -, -⟩ := ho5.shape' HV.out; have HS5 := Lib.hid hr5; have HS45 := Lib.hid ((HS4.out.below hb5).more hs5); have HX5 := Lib.hid (HX4.out.below hb5 HX4.out.lt); have c1' := (HB4.out.below hb5 (by omega)).c1; have HO5 := Lib.hid (HO4.out.below hb5 (Nat.le_refl _)); have HQ5 := Lib.hid (HQ4.out.trans (hb5.mono (by omega))); have HC5 := Lib.hid (HC4.out.below hb5 (Nat.le_refl _)); have HT5 := Lib.hid ((HT4.out.below hb5).more hs5); clear ho5 hr5 hb5)
              | (go_at_call 20; refine (same_any _ _ HS45.out HS5.out HV.out HV.out).mono ?_; rintro e w' ⟨rfl, rfl⟩; rw [beq_self_eq_true])
              | (go_at_call 10; refine (num_any r _).mono ?_; rintro e w' ⟨rfl, rfl⟩)
              | (go_at_call 27; refine (kept_any d HC5.out HT5.out HM.out rfl hmz).mono ?_; rintro e w' ⟨rfl, rfl⟩)
              | (go_at_call 21; refine (lnext_any w5 gl _ _ _ _ _ _ HX5.out).mono ?_; rintro e w' ⟨rfl, rfl⟩; rw [if_neg HR0.out]))
            go_roundw
            case rel => exact ⟨k + 1, nx, L, t, h, s, by omega, by go_num, rfl, hnx, HO5.out, by rw [HlL.out]; omega, HI.out, by have q := HX5.out; rw [if_neg HR0.out] at q; exact q, HQ5.out, by omega⟩
            case measure => simp [intOf]; omega
        by_cases hk1 : kd = 1
        · subst hk1
          have c0 := HBc.out.c0
          have c2 := HBc.out.c2
          by_cases h1 : num < (nx : Int)
          · have h1d : decide ((nx : Int) ≤ num) = false := by simp; omega
            have h1n : (num ≥ (nx : Int)) = False := by simp; omega
            have hj := jump_any wc gl t h s ka kb nx num HXc.out
            rw [h1d, Bool.false_and, if_neg (by omega)] at hj
            have HJ := Lib.hid hj
            clear hj
            go_wp2_with fail
            refine HJ.out.mono ?_
            rintro e w4 ⟨rfl, hx4, hg4⟩
            have hs4 := hg4.size
            have HX4 := Lib.hid hx4
            have HO4 := Lib.hid (HOc.out.kept' hg4 (fun q e h' => by cases e; have := (HOc.out.lt _ h').1; omega))
            have HQ4 := Lib.hid (HQc.out.grown hg4 (by omega) (fun q e => by cases e; omega))
            clear hx4 hg4
            go_wp2_with (go_at_call 21; refine (lnext_any w4 gl _ _ _ _ _ _ HX4.out).mono ?_; rintro e w' ⟨rfl, rfl⟩)
            go_roundw
            case rel => exact ⟨k + 1, nx, L, t, h, s, by omega, by go_num, rfl, hnx, HO4.out, by rw [HlL.out]; omega, HI.out, HX4.out, HQ4.out, by omega⟩
            case measure => simp [intOf]; omega
          obtain ⟨z, rfl⟩ : ∃ z : Nat, num = (z : Int) := ⟨num.toNat, by omega⟩
          by_cases h2 : z ≤ 4294967295
          · have h1g : nx ≤ z := by omega
            have h1d : decide ((nx : Int) ≤ (z : Int)) = true := by simp; omega
            have h2d : decide ((z : Int) ≤ 4294967295) = true := by simp; omega
            clear h1
            have hj := jump_any wc gl t h s ka kb nx (z : Int) HXc.out
            rw [h1d, h2d, Bool.true_and, if_pos (by omega)] at hj
            have HJ := Lib.hid hj
            clear hj
            go_wp2_with fail
            refine HJ.out.mono ?_
            rintro e w4 ⟨rfl, hx4, hg4⟩
            have hs4 := hg4.size
            have HX4 := Lib.hid hx4
            have HO4 := Lib.hid (HOc.out.kept' hg4 (fun q e h' => by cases e; have := (HOc.out.lt _ h').1; omega))
            have HQ4 := Lib.hid (HQc.out.grown hg4 (by omega) (fun q e => by cases e; omega))
            clear hx4 hg4
            go_wp2_with (go_at_call 21; refine (lnext_any w4 gl _ _ _ _ _ _ HX4.out).mono ?_; rintro e w' ⟨rfl, rfl⟩)
            go_roundw
            case rel => exact ⟨k + 1, z, L, t, h, s, by omega, by go_num, rfl, h2, HO4.out, by rw [HlL.out]; omega, HI.out, HX4.out, HQ4.out, by omega⟩
            case measure => simp [intOf]; omega
          · have h1g : nx ≤ z := by omega
            have h1d : decide ((nx : Int) ≤ (z : Int)) = true := by simp; omega
            have h2d : decide ((z : Int) ≤ 4294967295) = false := by simp; omega
            clear h1
            have hj := jump_any wc gl t h s ka kb nx (z : Int) HXc.out
            rw [h1d, h2d, Bool.and_false, if_neg (by omega)] at hj
            have HJ := Lib.hid hj
            clear hj
            go_wp2_with fail
            refine HJ.out.mono ?_
            rintro e w4 ⟨rfl, hx4, hg4⟩
            have hs4 := hg4.size
            have HX4 := Lib.hid hx4
            have HO4 := Lib.hid (HOc.out.kept' hg4 (fun q e h' => by cases e; have := (HOc.out.lt _ h').1; omega))
            have HQ4 := Lib.hid (HQc.out.grown hg4 (by omega) (fun q e => by cases e; omega))
            clear hx4 hg4
            go_wp2_with (go_at_call 21; refine (lnext_any w4 gl _ _ _ _ _ _ HX4.out).mono ?_; rintro e w' ⟨rfl, rfl⟩)
            go_roundw
            case rel => exact ⟨k + 1, nx, L, t, h, s, by omega, by go_num, rfl, hnx, HO4.out, by rw [HlL.out]; omega, HI.out, HX4.out, HQ4.out, by omega⟩
            case measure => simp [intOf]; omega
        by_cases hk3 : kd = 3
        · subst hk3
          have c0 := HBc.out.c0
          have c1 := HBc.out.c1
          have hwm : wo.heap.size ≤ wc.heap.size := hsc
          have HXm := Lib.hid HXc.out
          have HOm := Lib.hid HOc.out
          have HQm := Lib.hid HQc.out
          have HMr := Lib.hid HTc.out
          have HMl := Lib.hid HM.out
          have hml : m ≤ 140737488351232 := hmz
          have hmc := hmd
          have hmx := hdm
          have HMA := Lib.hid (show text = [] ∨ ∀ a, T = some a → a.block ≠ gl ∧ (Value.slice Av lL cv).ownBlock ≠ some a.block from by
            by_cases h0 : text = []
            · exact .inl h0
            · refine .inr (fun a ea => ?_)
              obtain ⟨b', off', e', hb', -⟩ := HRt.out (by simpa using List.length_pos_iff.2 h0)
              rw [ea] at e'
              cases e'
              exact ⟨by simp only; omega, fun e => by have := (HOc.out.lt _ e).1; simp only at this; omega⟩)
          clear HBc HXc HOc HQc HTc HCc
          go_wp2_with fail
          obtain ⟨nn, hnn⟩ : ∃ nn, headN (text.take 4) = nn := ⟨_, rfl⟩
          obtain ⟨r, hr⟩ : ∃ r, refCheck L (nn : Int) = r := ⟨_, rfl⟩
          have hwr : winCheck t h s (nn : Int) = r := by rw [HI.out.check]; exact hr
          obtain ⟨bd, hbd⟩ : ∃ q, q = ltBad kb r text := ⟨_, rfl⟩
          obtain ⟨V, hV⟩ : ∃ q, q = ltV kb r text := ⟨_, rfl⟩
          obtain ⟨lV, hlV⟩ : ∃ l, V.length = l := ⟨_, rfl⟩
          have HV := Lib.hid hlV
          have HRT := Lib.hid (show ∀ w' : World, Own i64v w' w0.heap.size 3 (.slice Av lL cv) L → Rd b8 w' w'.heap.size T text → Calls Try.prog 28 #[.agg (kb.map b8).toArray, .slice Av lL cv, .slice T m d] w' fun e w'' => ∃ q v, e = .returned (.tuple #[.int .i64 q, v, .int .i64 (bd : Int)]) ∧ (bd = 0 → q = (nn : Int)) ∧ Own b8 w'' w'.heap.size 5 v V ∧ Below w'.heap.size w' w'' from fun w' ho hm => by
            have q := refLTake_any w' kb HKb.out Av lL cv w'.heap.size L ho.rd (Nat.le_refl _) HlL.out (by omega) HI.out.hib T m d w'.heap.size text hm (Nat.le_refl _) HMl.out hmc hmx r nn hnn hr
            rw [← hbd, ← hV] at q
            exact q)
          have HR0 := Lib.hid (show bd = 0 → refCheck L (nn : Int) = 0 from fun h0 => by
            rw [hr]
            rw [hbd] at h0
            unfold ltBad at h0
            split at h0
            · cases h0
            · by_cases hr0 : r = 0
              · exact hr0
              · rw [if_pos hr0] at h0; exact absurd h0 hr0)
          refine (copy_any d HMr.out (Nat.le_refl _) HMl.out hml).mono ?_
          rintro e wd ⟨vd, rfl, hcp, hbd0⟩
          have hsd := hbd0.size
          obtain ⟨gd, cd, rfl, hgd1, hgd2, hcd1, hcd2⟩ := hcp.shape' HMl.out
          have HCd := Lib.hid hcp
          have HXd := Lib.hid (HXm.out.below hbd0 HXm.out.lt)
          have HOd := Lib.hid (HOm.out.below hbd0 (Nat.le_refl _))
          have HQd := Lib.hid (HQm.out.trans (hbd0.mono (by omega)))
          have HMd := Lib.hid ((HMr.out.below hbd0).more hsd)
          have hlt0 := ltakeG_any wd gl t h s ka kb (nx : Int) HXd.out HI.out.bound (some ⟨gd, 0, none⟩) m cd wd.heap.size text HCd.out.own.rd (Nat.le_refl _) HMl.out (by omega) hcd2 r nn hnn hwr
          rw [← hbd, ← hV] at hlt0
          have HLt := Lib.hid hlt0
          clear hnn hr hwr hbd hV hlV hcp hbd0 hlt0 HXm HOm HQm HMr
          go_wp2_with fail
          refine HLt.out.mono ?_
          rintro e w4 ⟨v4, rfl, ho4, hx4n, hx4y, hg4⟩
          have hs4 := hg4.size
          obtain ⟨A4, c4, rfl, -, -, -, -⟩ := ho4.shape' HV.out
          have HS4 := Lib.hid ho4
          have HO4 := Lib.hid (HOd.out.kept' hg4 (fun q e h' => by cases e; have := (HOd.out.lt _ h').1; omega))
          have HQ4 := Lib.hid (HQd.out.grown hg4 (by omega) (fun q e => by cases e; omega))
          have HC4 := Lib.hid (HCd.out.kept hg4 (.inr (fun e => by simp [Value.ownBlock] at e; omega)))
          have HM4 := Lib.hid (rd_grown' HMd.out hg4 (HMA.out.imp id (fun f a ea e => by injection e with e; exact (f a ea).1 e)))
          have HB4 := Lib.hid (HB3.out.below HQ4.out (by omega))
          have HXn := Lib.hid hx4n
          have HXy := Lib.hid hx4y
          clear ho4 hx4n hx4y hg4 HXd HOd HQd HMd HCd HLt
          by_cases hb0 : bd = 0
          · subst hb0
            have HX4 := Lib.hid (HXy.out rfl)
            have HIn := Lib.hid (HI.out.mark (nn : Int) (HR0.out rfl))
            clear HXy HXn
            go_wp2_with (first
              | (refine wpList_load_arr (op := { dst := some 92, op := _, type := _, pos := _, after := _, guard := _ }) rfl 39 (.tmp 4) rfl (W.heap.size + 1) rfl _ kb HB4.out _ Try.underlying39 rfl (by rw [HKb.out]; exact size32k) ?_)
              | (go_at_call 28; refine (HRT.out w4 HO4.out HM4.out).mono ?_; rintro e w5 ⟨q, v5, rfl, hq, ho5, hb5⟩; have hq' : q = (nn : Int) := (by first | exact hq trivial | exact hq rfl | exact hq); clear hq; obtain rfl := hq'; have hs5 := hb5.size; obtain ⟨A5, c5, rfl, -, -, -, -⟩ := ho5.shape' HV.out; have HS5 := Lib.hid ho5; have HS45 := Lib.hid (HS4.out.below hb5 (Nat.le_refl _)); have HX5 := Lib.hid (HX4.out.below hb5 HX4.out.lt); have HO5 := Lib.hid (HO4.out.below hb5 (Nat.le_refl _)); have HQ5 := Lib.hid (HQ4.out.trans (hb5.mono (by omega))); have HC5 := Lib.hid (HC4.out.below hb5 (Nat.le_refl _)); have HM5 := Lib.hid ((HM4.out.below hb5).more hs5); clear ho5 hb5)
              | (at_builtin; refine wpList_append_rd rfl _ _ 22 rfl i64v_one w0.heap.size 3 i0 _ 8 Try.underlying22 hi0 hz0 hz1 hz2 rfl _ L rfl (HO5.out.alloc _) (w5.heap.size + 1) _ 1 1 [(nn : Int)] rfl rfl (Rd.new i64v _ _ [(nn : Int)]) (by rw [HlL.out]; simp [maxLen]; omega) (by rw [HlL.out]; simp; omega) (by simp; omega) ?_; intro v7 w7 hown7 hg7 hbb7; obtain ⟨Av7, cv7, rfl, hrd7, -, -, -⟩ := hown7.shape' (n := lL + 1) (by simp [HlL.out]); have hs7 := hg7.size; have HX7 := Lib.hid ((HX5.out.keep (Below.heap_alloc w5 _ gl HX5.out.lt)).grown hg7.by_ (fun e => by have := (HO5.out.lt _ e.symm).1; omega)); have HQ7 := Lib.hid (hbb7 _ _ (show W.heap.size + 2 ≤ w0.heap.size by omega) (HQ5.out.alloc (by omega) _)); have HS47 := Lib.hid ((HS45.out.alloc _).kept' hg7.by_ (fun g e => HO5.out.unlike HS45.out (by decide) g e)); have HS7 := Lib.hid ((HS5.out.alloc _).kept' hg7.by_ (fun g e => HO5.out.unlike HS5.out (by decide) g e)); have HC7 := Lib.hid ((HC5.out.alloc _).kept hg7.by_ (.inr (fun e => HO5.out.unlike HC5.out.own (by decide) gd e.symm rfl))); have HM7 := Lib.hid (rd_grown' ((HM5.out.alloc (Nat.le_refl _) _).more (by simp)) hg7.by_ (HMA.out.imp id (fun f a ea e => (f a ea).2 e.symm))); have HO7 := Lib.hid hown7; have HL7 := Lib.hid hrd7; clear hown7 hg7 hbb7 hrd7)
              | (go_at_call 20; refine (same_any _ _ HS47.out.rd HS7.out.rd HV.out HV.out).mono ?_; rintro e w' ⟨rfl, rfl⟩; rw [beq_self_eq_true])
              | (go_at_call 10; refine (num_any 0 _).mono ?_; rintro e w' ⟨rfl, rfl⟩)
              | (go_at_call 27; refine (kept_any d HC7.out HM7.out HMl.out rfl hml).mono ?_; rintro e w' ⟨rfl, rfl⟩)
              | (go_at_call 22; refine (lhighest_any _ gl _ _ _ _ _ _ HX7.out).mono ?_; rintro e w' ⟨rfl, rfl⟩; rw [HIn.out.hi])
              | (go_at_call 14; refine (refHighest_any (n := lL + 1) cv7 HL7.out (by simp [HlL.out]) (by omega)).mono ?_; rintro e w' ⟨rfl, rfl⟩))
            go_roundw
            case rel => exact ⟨k + 1, nx, L ++ [(nn : Int)], _, _, _, by omega, by go_num, rfl, hnx, HO7.out, by simp [HlL.out]; omega, HIn.out, HX7.out, HQ7.out, by simp at hs7; omega⟩
            case measure => simp [intOf]; omega
          · have HX4 := Lib.hid (HXn.out hb0)
            have hrn : ((bd : Int) == 0) = false := by simp; omega
            have hrn2 : (bd = 0) = False := by simp [hb0]
            clear hb0 HXy HXn
            go_wp2_with (first
              | (refine wpList_load_arr (op := { dst := some 92, op := _, type := _, pos := _, after := _, guard := _ }) rfl 39 (.tmp 4) rfl (W.heap.size + 1) rfl _ kb HB4.out _ Try.underlying39 rfl (by rw [HKb.out]; exact size32k) ?_)
              | (go_at_call 28; refine (HRT.out w4 HO4.out HM4.out).mono ?_; rintro e w5 ⟨q, v5, rfl, -, ho5, hb5⟩; have hs5 := hb5.size; obtain ⟨A5, c5, rfl, -, -, -, -⟩ := ho5.shape' HV.out; have HS5 := Lib.hid ho5; have HS45 := Lib.hid (HS4.out.below hb5 (Nat.le_refl _)); have HX5 := Lib.hid (HX4.out.below hb5 HX4.out.lt); have HO5 := Lib.hid (HO4.out.below hb5 (Nat.le_refl _)); have HQ5 := Lib.hid (HQ4.out.trans (hb5.mono (by omega))); have HC5 := Lib.hid (HC4.out.below hb5 (Nat.le_refl _)); have HM5 := Lib.hid ((HM4.out.below hb5).more hs5); clear ho5 hb5)
              | (go_at_call 20; refine (same_any _ _ HS45.out.rd HS5.out.rd HV.out HV.out).mono ?_; rintro e w' ⟨rfl, rfl⟩; rw [beq_self_eq_true])
              | (go_at_call 10; refine (num_any bd _).mono ?_; rintro e w' ⟨rfl, rfl⟩)
              | (go_at_call 27; refine (kept_any d HC5.out HM5.out HMl.out rfl hml).mono ?_; rintro e w' ⟨rfl, rfl⟩)
              | (go_at_call 22; refine (lhighest_any _ gl _ _ _ _ _ _ HX5.out).mono ?_; rintro e w' ⟨rfl, rfl⟩; rw [HI.out.hi])
              | (go_at_call 14; refine (refHighest_any (n := lL) cv HO5.out.rd HlL.out (by omega)).mono ?_; rintro e w' ⟨rfl, rfl⟩))
            go_roundw
            case rel => exact ⟨k + 1, nx, L, t, h, s, by omega, by go_num, rfl, hnx, HO5.out, by rw [HlL.out]; omega, HI.out, HX5.out, HQ5.out, by omega⟩
            case measure => simp [intOf]; omega
        ·
          have c0 := HBc.out.c0
          have c1 := HBc.out.c1
          have c2 := HBc.out.c2
          have e0 : (kd == 0) = false := by simpa using hk0
          have e0' : (kd = 0) = False := by simp [hk0]
          have e1 : (kd == 1) = false := by simpa using hk1
          have e1' : (kd = 1) = False := by simp [hk1]
          have e3 : (kd == 3) = false := by simpa using hk3
          have e3' : (kd = 3) = False := by simp [hk3]
          clear hk0 hk1 hk3
          have hqs := refLSend_any wc kb HKb.out num T m d wc.heap.size text HTc.out (Nat.le_refl _) HM.out
          obtain ⟨rz, hrz⟩ : ∃ q, q = rsBad m num := ⟨_, rfl⟩
          rw [← hrz] at hqs
          obtain ⟨Y, hY⟩ : ∃ Y, Y = (if rz = 0 then msgV kb num.toNat text else []) := ⟨_, rfl⟩
          rw [← hY] at hqs
          have hYl : Y.length ≤ 65556 := by
            rw [hY]
            by_cases h0 : rz = 0
            · have hm6 : text.length ≤ 65536 := by
                rw [HM.out]
                rw [hrz] at h0
                unfold rsBad at h0
                split at h0
                · cases h0
                · omega
              rw [if_pos h0, msgV_len _ _ _ hm6]
              omega
            · rw [if_neg h0]; simp
          obtain ⟨lY, hlY⟩ : ∃ l, Y.length = l := ⟨_, rfl⟩
          rw [hlY] at hYl
          have HYL := Lib.hid hlY
          have HQS := Lib.hid hqs
          have HBk := Lib.hid (HB3.out.below HQc.out (by omega))
          clear hqs hrz hY hlY HTc HCc
          by_cases hl0 : lY = 0
          · subst hl0
            go_wp2_with (first
              | (refine wpList_load_arr (op := { dst := some 62, op := _, type := _, pos := _, after := _, guard := _ }) rfl 39 (.tmp 4) rfl (W.heap.size + 1) rfl _ kb HBk.out _ Try.underlying39 rfl (by rw [HKb.out]; exact size32k) ?_)
              | (go_at_call 26; refine HQS.out.mono ?_; rintro e w6 ⟨v6, rfl, ho6, hb6⟩; have hs6 := hb6.size; obtain ⟨A6, c6, rfl, hr6, -, -, hmx6⟩ := ho6.shape' HYL.out; have HR6 := Lib.hid hr6; have HB6 := Lib.hid hb6; clear ho6 hr6 hb6))
            have hwm : wo.heap.size ≤ w6.heap.size := by omega
            have HXm := Lib.hid (HXc.out.below HB6.out HXc.out.lt)
            have HOm := Lib.hid (HOc.out.below HB6.out (Nat.le_refl _))
            have HQm := Lib.hid (HQc.out.trans (HB6.out.mono (by omega)))
            have HMr := Lib.hid HR6.out
            have HMl := Lib.hid HYL.out
            have hml : (0 : Nat) ≤ 140737488351232 := by omega
            have hmc : (0 : Nat) ≤ c6 := by omega
            have hmx : c6 ≤ maxLen := hmx6
            have HMA := Lib.hid (show Y = [] ∨ ∀ a, A6 = some a → a.block ≠ gl ∧ (Value.slice Av lL cv).ownBlock ≠ some a.block from .inl (List.length_eq_zero_iff.1 HYL.out))
            clear HBc HXc HOc HQc HBk HQS HR6 HB6 c0 c1 c2
            obtain ⟨nn, hnn⟩ : ∃ nn, headN (Y.take 4) = nn := ⟨_, rfl⟩
            obtain ⟨r, hr⟩ : ∃ r, refCheck L (nn : Int) = r := ⟨_, rfl⟩
            have hwr : winCheck t h s (nn : Int) = r := by rw [HI.out.check]; exact hr
            obtain ⟨bd, hbd⟩ : ∃ q, q = ltBad kb r Y := ⟨_, rfl⟩
            obtain ⟨V, hV⟩ : ∃ q, q = ltV kb r Y := ⟨_, rfl⟩
            obtain ⟨lV, hlV⟩ : ∃ l, V.length = l := ⟨_, rfl⟩
            have HV := Lib.hid hlV
            have HRT := Lib.hid (show ∀ w' : World, Own i64v w' w0.heap.size 3 (.slice Av lL cv) L → Rd b8 w' w'.heap.size A6 Y → Calls Try.prog 28 #[.agg (kb.map b8).toArray, .slice Av lL cv, .slice A6 0 c6] w' fun e w'' => ∃ q v, e = .returned (.tuple #[.int .i64 q, v, .int .i64 (bd : Int)]) ∧ (bd = 0 → q = (nn : Int)) ∧ Own b8 w'' w'.heap.size 5 v V ∧ Below w'.heap.size w' w'' from fun w' ho hm => by
              have q := refLTake_any w' kb HKb.out Av lL cv w'.heap.size L ho.rd (Nat.le_refl _) HlL.out (by omega) HI.out.hib A6 0 c6 w'.heap.size Y hm (Nat.le_refl _) HMl.out hmc hmx r nn hnn hr
              rw [← hbd, ← hV] at q
              exact q)
            have HR0 := Lib.hid (show bd = 0 → refCheck L (nn : Int) = 0 from fun h0 => by
              rw [hr]
              rw [hbd] at h0
              unfold ltBad at h0
              split at h0
              · cases h0
              · by_cases hr0 : r = 0
                · exact hr0
                · rw [if_pos hr0] at h0; exact absurd h0 hr0)
            refine (copy_any c6 HMr.out (Nat.le_refl _) HMl.out hml).mono ?_
            rintro e wd ⟨vd, rfl, hcp, hbd0⟩
            have hsd := hbd0.size
            obtain ⟨gd, cd, rfl, hgd1, hgd2, hcd1, hcd2⟩ := hcp.shape' HMl.out
            have HCd := Lib.hid hcp
            have HXd := Lib.hid (HXm.out.below hbd0 HXm.out.lt)
            have HOd := Lib.hid (HOm.out.below hbd0 (Nat.le_refl _))
            have HQd := Lib.hid (HQm.out.trans (hbd0.mono (by omega)))
            have HMd := Lib.hid ((HMr.out.below hbd0).more hsd)
            have hlt0 := ltakeG_any wd gl t h s ka kb (nx : Int) HXd.out HI.out.bound (some ⟨gd, 0, none⟩) 0 cd wd.heap.size Y HCd.out.own.rd (Nat.le_refl _) HMl.out (by omega) hcd2 r nn hnn hwr
            rw [← hbd, ← hV] at hlt0
            have HLt := Lib.hid hlt0
            clear hnn hr hwr hbd hV hlV hcp hbd0 hlt0 HXm HOm HQm HMr
            go_wp2_with fail
            refine HLt.out.mono ?_
            rintro e w4 ⟨v4, rfl, ho4, hx4n, hx4y, hg4⟩
            have hs4 := hg4.size
            obtain ⟨A4, c4, rfl, -, -, -, -⟩ := ho4.shape' HV.out
            have HS4 := Lib.hid ho4
            have HO4 := Lib.hid (HOd.out.kept' hg4 (fun q e h' => by cases e; have := (HOd.out.lt _ h').1; omega))
            have HQ4 := Lib.hid (HQd.out.grown hg4 (by omega) (fun q e => by cases e; omega))
            have HC4 := Lib.hid (HCd.out.kept hg4 (.inr (fun e => by simp [Value.ownBlock] at e; omega)))
            have HM4 := Lib.hid (rd_grown' HMd.out hg4 (HMA.out.imp id (fun f a ea e => by injection e with e; exact (f a ea).1 e)))
            have HB4 := Lib.hid (HB3.out.below HQ4.out (by omega))
            have HXn := Lib.hid hx4n
            have HXy := Lib.hid hx4y
            clear ho4 hx4n hx4y hg4 HXd HOd HQd HMd HCd HLt
            by_cases hb0 : bd = 0
            · subst hb0
              have HX4 := Lib.hid (HXy.out rfl)
              have HIn := Lib.hid (HI.out.mark (nn : Int) (HR0.out rfl))
              clear HXy HXn
              go_wp2_with (first
                | (refine wpList_load_arr (op := { dst := some 92, op := _, type := _, pos := _, after := _, guard := _ }) rfl 39 (.tmp 4) rfl (W.heap.size + 1) rfl _ kb HB4.out _ Try.underlying39 rfl (by rw [HKb.out]; exact size32k) ?_)
                | (go_at_call 28; refine (HRT.out w4 HO4.out HM4.out).mono ?_; rintro e w5 ⟨q, v5, rfl, hq, ho5, hb5⟩; have hq' : q = (nn : Int) := (by first | exact hq trivial | exact hq rfl | exact hq); clear hq; obtain rfl := hq'; have hs5 := hb5.size; obtain ⟨A5, c5, rfl, -, -, -, -⟩ := ho5.shape' HV.out; have HS5 := Lib.hid ho5; have HS45 := Lib.hid (HS4.out.below hb5 (Nat.le_refl _)); have HX5 := Lib.hid (HX4.out.below hb5 HX4.out.lt); have HO5 := Lib.hid (HO4.out.below hb5 (Nat.le_refl _)); have HQ5 := Lib.hid (HQ4.out.trans (hb5.mono (by omega))); have HC5 := Lib.hid (HC4.out.below hb5 (Nat.le_refl _)); have HM5 := Lib.hid ((HM4.out.below hb5).more hs5); clear ho5 hb5)
                | (at_builtin; refine wpList_append_rd rfl _ _ 22 rfl i64v_one w0.heap.size 3 i0 _ 8 Try.underlying22 hi0 hz0 hz1 hz2 rfl _ L rfl (HO5.out.alloc _) (w5.heap.size + 1) _ 1 1 [(nn : Int)] rfl rfl (Rd.new i64v _ _ [(nn : Int)]) (by rw [HlL.out]; simp [maxLen]; omega) (by rw [HlL.out]; simp; omega) (by simp; omega) ?_; intro v7 w7 hown7 hg7 hbb7; obtain ⟨Av7, cv7, rfl, hrd7, -, -, -⟩ := hown7.shape' (n := lL + 1) (by simp [HlL.out]); have hs7 := hg7.size; have HX7 := Lib.hid ((HX5.out.keep (Below.heap_alloc w5 _ gl HX5.out.lt)).grown hg7.by_ (fun e => by have := (HO5.out.lt _ e.symm).1; omega)); have HQ7 := Lib.hid (hbb7 _ _ (show W.heap.size + 2 ≤ w0.heap.size by omega) (HQ5.out.alloc (by omega) _)); have HS47 := Lib.hid ((HS45.out.alloc _).kept' hg7.by_ (fun g e => HO5.out.unlike HS45.out (by decide) g e)); have HS7 := Lib.hid ((HS5.out.alloc _).kept' hg7.by_ (fun g e => HO5.out.unlike HS5.out (by decide) g e)); have HC7 := Lib.hid ((HC5.out.alloc _).kept hg7.by_ (.inr (fun e => HO5.out.unlike HC5.out.own (by decide) gd e.symm rfl))); have HM7 := Lib.hid (rd_grown' ((HM5.out.alloc (Nat.le_refl _) _).more (by simp)) hg7.by_ (HMA.out.imp id (fun f a ea e => (f a ea).2 e.symm))); have HO7 := Lib.hid hown7; have HL7 := Lib.hid hrd7; clear hown7 hg7 hbb7 hrd7)
                | (go_at_call 20; refine (same_any _ _ HS47.out.rd HS7.out.rd HV.out HV.out).mono ?_; rintro e w' ⟨rfl, rfl⟩; rw [beq_self_eq_true])
                | (go_at_call 10; refine (num_any 0 _).mono ?_; rintro e w' ⟨rfl, rfl⟩)
                | (go_at_call 27; refine (kept_any c6 HC7.out HM7.out HMl.out rfl hml).mono ?_; rintro e w' ⟨rfl, rfl⟩)
                | (go_at_call 22; refine (lhighest_any _ gl _ _ _ _ _ _ HX7.out).mono ?_; rintro e w' ⟨rfl, rfl⟩; rw [HIn.out.hi])
                | (go_at_call 14; refine (refHighest_any (n := lL + 1) cv7 HL7.out (by simp [HlL.out]) (by omega)).mono ?_; rintro e w' ⟨rfl, rfl⟩))
              go_roundw
              case rel => exact ⟨k + 1, nx, L ++ [(nn : Int)], _, _, _, by omega, by go_num, rfl, hnx, HO7.out, by simp [HlL.out]; omega, HIn.out, HX7.out, HQ7.out, by simp at hs7; omega⟩
              case measure => simp [intOf]; omega
            · have HX4 := Lib.hid (HXn.out hb0)
              have hrn : ((bd : Int) == 0) = false := by simp; omega
              have hrn2 : (bd = 0) = False := by simp [hb0]
              clear hb0 HXy HXn
              go_wp2_with (first
                | (refine wpList_load_arr (op := { dst := some 92, op := _, type := _, pos := _, after := _, guard := _ }) rfl 39 (.tmp 4) rfl (W.heap.size + 1) rfl _ kb HB4.out _ Try.underlying39 rfl (by rw [HKb.out]; exact size32k) ?_)
                | (go_at_call 28; refine (HRT.out w4 HO4.out HM4.out).mono ?_; rintro e w5 ⟨q, v5, rfl, -, ho5, hb5⟩; have hs5 := hb5.size; obtain ⟨A5, c5, rfl, -, -, -, -⟩ := ho5.shape' HV.out; have HS5 := Lib.hid ho5; have HS45 := Lib.hid (HS4.out.below hb5 (Nat.le_refl _)); have HX5 := Lib.hid (HX4.out.below hb5 HX4.out.lt); have HO5 := Lib.hid (HO4.out.below hb5 (Nat.le_refl _)); have HQ5 := Lib.hid (HQ4.out.trans (hb5.mono (by omega))); have HC5 := Lib.hid (HC4.out.below hb5 (Nat.le_refl _)); have HM5 := Lib.hid ((HM4.out.below hb5).more hs5); clear ho5 hb5)
                | (go_at_call 20; refine (same_any _ _ HS45.out.rd HS5.out.rd HV.out HV.out).mono ?_; rintro e w' ⟨rfl, rfl⟩; rw [beq_self_eq_true])
                | (go_at_call 10; refine (num_any bd _).mono ?_; rintro e w' ⟨rfl, rfl⟩)
                | (go_at_call 27; refine (kept_any c6 HC5.out HM5.out HMl.out rfl hml).mono ?_; rintro e w' ⟨rfl, rfl⟩)
                | (go_at_call 22; refine (lhighest_any _ gl _ _ _ _ _ _ HX5.out).mono ?_; rintro e w' ⟨rfl, rfl⟩; rw [HI.out.hi])
                | (go_at_call 14; refine (refHighest_any (n := lL) cv HO5.out.rd HlL.out (by omega)).mono ?_; rintro e w' ⟨rfl, rfl⟩))
              go_roundw
              case rel => exact ⟨k + 1, nx, L, t, h, s, by omega, by go_num, rfl, hnx, HO5.out, by rw [HlL.out]; omega, HI.out, HX5.out, HQ5.out, by omega⟩
              case measure => simp [intOf]; omega
          · obtain ⟨j, hj⟩ : ∃ j : Nat, (lY : Int) - 1 = (j : Int) := ⟨lY - 1, by omega⟩
            have hjl : j < lY := by omega
            have hlp : (lY : Int) > 0 := by omega
            obtain ⟨y, hy⟩ : ∃ y, Y[j]? = some y := ⟨_, List.getElem?_eq_getElem (by rw [HYL.out]; exact hjl)⟩
            have HY := Lib.hid hy
            clear hy hl0
            go_wp2_with (first
              | (refine wpList_load_arr (op := { dst := some 62, op := _, type := _, pos := _, after := _, guard := _ }) rfl 39 (.tmp 4) rfl (W.heap.size + 1) rfl _ kb HBk.out _ Try.underlying39 rfl (by rw [HKb.out]; exact size32k) ?_)
              | (go_at_call 26; refine HQS.out.mono ?_; rintro e w6 ⟨v6, rfl, ho6, hb6⟩; have hs6 := hb6.size; obtain ⟨g6, c6, rfl, hg61, hg62, hc6⟩ := ho6.form' HYL.out (by omega); have HO6 := Lib.hid ho6; have HB6 := Lib.hid hb6; clear ho6 hb6))
            have hmx6 : c6 ≤ maxLen := by
              obtain ⟨A', c', e', -, -, -, h'⟩ := HO6.out.shape
              cases e'
              exact h'
            obtain ⟨hcy, hfy⟩ := HO6.out.at_ (k := j) (by rw [HYL.out]; exact hjl)
            rw [show Y[j]'(by rw [HYL.out]; exact hjl) = y from (List.getElem?_eq_some_iff.1 HY.out).2] at hcy
            have hcy' : w6.cell? ⟨g6, j, none⟩ = some (.int .u8 (bv y)) := hcy
            have c3' := (HBc.out.below HB6.out (by omega)).c3
            have hwj : IntKind.i64.wrap (j : Int) = (j : Int) := IntWalk.i64_in _ (by omega)
            have hjli : (j : Int) < (lY : Int) := by omega
            clear hcy HBk HQS c0 c1 c2
            go_still_tail 10, (by kernel_rfl)
            go_wp2_with fail
            obtain ⟨ho7, hg7⟩ := HO6.out.set_ j (y ^^^ bt)
            have hq7 : w6.grownBy (w6.setCell ⟨g6, j, none⟩ (.int .u8 (bv (y ^^^ bt)))).drew (some g6) := ⟨hg7.os, hg7.tape, hg7.output, hg7.size, hg7.block⟩
            have ho7' : Own b8 (w6.setCell ⟨g6, j, none⟩ (.int .u8 (bv (y ^^^ bt)))).drew wc.heap.size 5 (.slice (some ⟨g6, 0, none⟩) lY c6) (Y.set j (y ^^^ bt)) := ho7.drew
            generalize hW : (w6.setCell ⟨g6, j, none⟩ (.int .u8 (bv (y ^^^ bt)))).drew = wm at hq7 ho7' ⊢
            clear hW ho7 hg7
            have hs7 := hq7.size
            have hwm : wo.heap.size ≤ wm.heap.size := by omega
            have HXm := Lib.hid ((HXc.out.below HB6.out HXc.out.lt).grown hq7 (fun e => by injection e; omega))
            have HOm := Lib.hid ((HOc.out.below HB6.out (Nat.le_refl _)).kept' hq7 (fun q e h' => by cases e; have := (HOc.out.lt _ h').2; omega))
            have HQm := Lib.hid ((HQc.out.trans (HB6.out.mono (by omega))).grown hq7 (by omega) (fun q e => by cases e; omega))
            have HMr := Lib.hid ho7'.rd
            have HMl := Lib.hid (show (Y.set j (y ^^^ bt)).length = lY from by rw [List.length_set]; exact HYL.out)
            have hml : lY ≤ 140737488351232 := by omega
            have hmc : lY ≤ c6 := hc6
            have hmx : c6 ≤ maxLen := hmx6
            have HMA := Lib.hid (show Y.set j (y ^^^ bt) = [] ∨ ∀ a, some (Addr.mk g6 0 none) = some a → a.block ≠ gl ∧ (Value.slice Av lL cv).ownBlock ≠ some a.block from .inr (fun a ea => by cases ea; exact ⟨by simp only; omega, fun e => by have := (HOc.out.lt _ e).2; simp only at this; omega⟩))
            generalize Y.set j (y ^^^ bt) = Y2 at HMr HMl HMA
            clear ho7' hq7 HBc HXc HOc HQc HO6 HB6 hfy hcy' c3' hj hjl hjli hwj HY HYL
            obtain ⟨nn, hnn⟩ : ∃ nn, headN (Y2.take 4) = nn := ⟨_, rfl⟩
            obtain ⟨r, hr⟩ : ∃ r, refCheck L (nn : Int) = r := ⟨_, rfl⟩
            have hwr : winCheck t h s (nn : Int) = r := by rw [HI.out.check]; exact hr
            obtain ⟨bd, hbd⟩ : ∃ q, q = ltBad kb r Y2 := ⟨_, rfl⟩
            obtain ⟨V, hV⟩ : ∃ q, q = ltV kb r Y2 := ⟨_, rfl⟩
            obtain ⟨lV, hlV⟩ : ∃ l, V.length = l := ⟨_, rfl⟩
            have HV := Lib.hid hlV
            have HRT := Lib.hid (show ∀ w' : World, Own i64v w' w0.heap.size 3 (.slice Av lL cv) L → Rd b8 w' w'.heap.size (some ⟨g6, 0, none⟩) Y2 → Calls Try.prog 28 #[.agg (kb.map b8).toArray, .slice Av lL cv, .slice (some ⟨g6, 0, none⟩) lY c6] w' fun e w'' => ∃ q v, e = .returned (.tuple #[.int .i64 q, v, .int .i64 (bd : Int)]) ∧ (bd = 0 → q = (nn : Int)) ∧ Own b8 w'' w'.heap.size 5 v V ∧ Below w'.heap.size w' w'' from fun w' ho hm => by
              have q := refLTake_any w' kb HKb.out Av lL cv w'.heap.size L ho.rd (Nat.le_refl _) HlL.out (by omega) HI.out.hib (some ⟨g6, 0, none⟩) lY c6 w'.heap.size Y2 hm (Nat.le_refl _) HMl.out hmc hmx r nn hnn hr
              rw [← hbd, ← hV] at q
              exact q)
            have HR0 := Lib.hid (show bd = 0 → refCheck L (nn : Int) = 0 from fun h0 => by
              rw [hr]
              rw [hbd] at h0
              unfold ltBad at h0
              split at h0
              · cases h0
              · by_cases hr0 : r = 0
                · exact hr0
                · rw [if_pos hr0] at h0; exact absurd h0 hr0)
            refine (copy_any c6 HMr.out (Nat.le_refl _) HMl.out hml).mono ?_
            rintro e wd ⟨vd, rfl, hcp, hbd0⟩
            have hsd := hbd0.size
            obtain ⟨gd, cd, rfl, hgd1, hgd2, hcd1, hcd2⟩ := hcp.shape' HMl.out
            have HCd := Lib.hid hcp
            have HXd := Lib.hid (HXm.out.below hbd0 HXm.out.lt)
            have HOd := Lib.hid (HOm.out.below hbd0 (Nat.le_refl _))
            have HQd := Lib.hid (HQm.out.trans (hbd0.mono (by omega)))
            have HMd := Lib.hid ((HMr.out.below hbd0).more hsd)
            have hlt0 := ltakeG_any wd gl t h s ka kb (nx : Int) HXd.out HI.out.bound (some ⟨gd, 0, none⟩) lY cd wd.heap.size Y2 HCd.out.own.rd (Nat.le_refl _) HMl.out (by omega) hcd2 r nn hnn hwr
            rw [← hbd, ← hV] at hlt0
            have HLt := Lib.hid hlt0
            clear hnn hr hwr hbd hV hlV hcp hbd0 hlt0 HXm HOm HQm HMr
            go_wp2_with fail
            refine HLt.out.mono ?_
            rintro e w4 ⟨v4, rfl, ho4, hx4n, hx4y, hg4⟩
            have hs4 := hg4.size
            obtain ⟨A4, c4, rfl, -, -, -, -⟩ := ho4.shape' HV.out
            have HS4 := Lib.hid ho4
            have HO4 := Lib.hid (HOd.out.kept' hg4 (fun q e h' => by cases e; have := (HOd.out.lt _ h').1; omega))
            have HQ4 := Lib.hid (HQd.out.grown hg4 (by omega) (fun q e => by cases e; omega))
            have HC4 := Lib.hid (HCd.out.kept hg4 (.inr (fun e => by simp [Value.ownBlock] at e; omega)))
            have HM4 := Lib.hid (rd_grown' HMd.out hg4 (HMA.out.imp id (fun f a ea e => by injection e with e; exact (f a ea).1 e)))
            have HB4 := Lib.hid (HB3.out.below HQ4.out (by omega))
            have HXn := Lib.hid hx4n
            have HXy := Lib.hid hx4y
            clear ho4 hx4n hx4y hg4 HXd HOd HQd HMd HCd HLt
            by_cases hb0 : bd = 0
            · subst hb0
              have HX4 := Lib.hid (HXy.out rfl)
              have HIn := Lib.hid (HI.out.mark (nn : Int) (HR0.out rfl))
              clear HXy HXn
              go_wp2_with (first
                | (refine wpList_load_arr (op := { dst := some 92, op := _, type := _, pos := _, after := _, guard := _ }) rfl 39 (.tmp 4) rfl (W.heap.size + 1) rfl _ kb HB4.out _ Try.underlying39 rfl (by rw [HKb.out]; exact size32k) ?_)
                | (go_at_call 28; refine (HRT.out w4 HO4.out HM4.out).mono ?_; rintro e w5 ⟨q, v5, rfl, hq, ho5, hb5⟩; have hq' : q = (nn : Int) := (by first | exact hq trivial | exact hq rfl | exact hq); clear hq; obtain rfl := hq'; have hs5 := hb5.size; obtain ⟨A5, c5, rfl, -, -, -, -⟩ := ho5.shape' HV.out; have HS5 := Lib.hid ho5; have HS45 := Lib.hid (HS4.out.below hb5 (Nat.le_refl _)); have HX5 := Lib.hid (HX4.out.below hb5 HX4.out.lt); have HO5 := Lib.hid (HO4.out.below hb5 (Nat.le_refl _)); have HQ5 := Lib.hid (HQ4.out.trans (hb5.mono (by omega))); have HC5 := Lib.hid (HC4.out.below hb5 (Nat.le_refl _)); have HM5 := Lib.hid ((HM4.out.below hb5).more hs5); clear ho5 hb5)
                | (at_builtin; refine wpList_append_rd rfl _ _ 22 rfl i64v_one w0.heap.size 3 i0 _ 8 Try.underlying22 hi0 hz0 hz1 hz2 rfl _ L rfl (HO5.out.alloc _) (w5.heap.size + 1) _ 1 1 [(nn : Int)] rfl rfl (Rd.new i64v _ _ [(nn : Int)]) (by rw [HlL.out]; simp [maxLen]; omega) (by rw [HlL.out]; simp; omega) (by simp; omega) ?_; intro v7 w7 hown7 hg7 hbb7; obtain ⟨Av7, cv7, rfl, hrd7, -, -, -⟩ := hown7.shape' (n := lL + 1) (by simp [HlL.out]); have hs7 := hg7.size; have HX7 := Lib.hid ((HX5.out.keep (Below.heap_alloc w5 _ gl HX5.out.lt)).grown hg7.by_ (fun e => by have := (HO5.out.lt _ e.symm).1; omega)); have HQ7 := Lib.hid (hbb7 _ _ (show W.heap.size + 2 ≤ w0.heap.size by omega) (HQ5.out.alloc (by omega) _)); have HS47 := Lib.hid ((HS45.out.alloc _).kept' hg7.by_ (fun g e => HO5.out.unlike HS45.out (by decide) g e)); have HS7 := Lib.hid ((HS5.out.alloc _).kept' hg7.by_ (fun g e => HO5.out.unlike HS5.out (by decide) g e)); have HC7 := Lib.hid ((HC5.out.alloc _).kept hg7.by_ (.inr (fun e => HO5.out.unlike HC5.out.own (by decide) gd e.symm rfl))); have HM7 := Lib.hid (rd_grown' ((HM5.out.alloc (Nat.le_refl _) _).more (by simp)) hg7.by_ (HMA.out.imp id (fun f a ea e => (f a ea).2 e.symm))); have HO7 := Lib.hid hown7; have HL7 := Lib.hid hrd7; clear hown7 hg7 hbb7 hrd7)
                | (go_at_call 20; refine (same_any _ _ HS47.out.rd HS7.out.rd HV.out HV.out).mono ?_; rintro e w' ⟨rfl, rfl⟩; rw [beq_self_eq_true])
                | (go_at_call 10; refine (num_any 0 _).mono ?_; rintro e w' ⟨rfl, rfl⟩)
                | (go_at_call 27; refine (kept_any c6 HC7.out HM7.out HMl.out rfl hml).mono ?_; rintro e w' ⟨rfl, rfl⟩)
                | (go_at_call 22; refine (lhighest_any _ gl _ _ _ _ _ _ HX7.out).mono ?_; rintro e w' ⟨rfl, rfl⟩; rw [HIn.out.hi])
                | (go_at_call 14; refine (refHighest_any (n := lL + 1) cv7 HL7.out (by simp [HlL.out]) (by omega)).mono ?_; rintro e w' ⟨rfl, rfl⟩))
              go_roundw
              case rel => exact ⟨k + 1, nx, L ++ [(nn : Int)], _, _, _, by omega, by go_num, rfl, hnx, HO7.out, by simp [HlL.out]; omega, HIn.out, HX7.out, HQ7.out, by simp at hs7; omega⟩
              case measure => simp [intOf]; omega
            · have HX4 := Lib.hid (HXn.out hb0)
              have hrn : ((bd : Int) == 0) = false := by simp; omega
              have hrn2 : (bd = 0) = False := by simp [hb0]
              clear hb0 HXy HXn
              go_wp2_with (first
                | (refine wpList_load_arr (op := { dst := some 92, op := _, type := _, pos := _, after := _, guard := _ }) rfl 39 (.tmp 4) rfl (W.heap.size + 1) rfl _ kb HB4.out _ Try.underlying39 rfl (by rw [HKb.out]; exact size32k) ?_)
                | (go_at_call 28; refine (HRT.out w4 HO4.out HM4.out).mono ?_; rintro e w5 ⟨q, v5, rfl, -, ho5, hb5⟩; have hs5 := hb5.size; obtain ⟨A5, c5, rfl, -, -, -, -⟩ := ho5.shape' HV.out; have HS5 := Lib.hid ho5; have HS45 := Lib.hid (HS4.out.below hb5 (Nat.le_refl _)); have HX5 := Lib.hid (HX4.out.below hb5 HX4.out.lt); have HO5 := Lib.hid (HO4.out.below hb5 (Nat.le_refl _)); have HQ5 := Lib.hid (HQ4.out.trans (hb5.mono (by omega))); have HC5 := Lib.hid (HC4.out.below hb5 (Nat.le_refl _)); have HM5 := Lib.hid ((HM4.out.below hb5).more hs5); clear ho5 hb5)
                | (go_at_call 20; refine (same_any _ _ HS45.out.rd HS5.out.rd HV.out HV.out).mono ?_; rintro e w' ⟨rfl, rfl⟩; rw [beq_self_eq_true])
                | (go_at_call 10; refine (num_any bd _).mono ?_; rintro e w' ⟨rfl, rfl⟩)
                | (go_at_call 27; refine (kept_any c6 HC5.out HM5.out HMl.out rfl hml).mono ?_; rintro e w' ⟨rfl, rfl⟩)
                | (go_at_call 22; refine (lhighest_any _ gl _ _ _ _ _ _ HX5.out).mono ?_; rintro e w' ⟨rfl, rfl⟩; rw [HI.out.hi])
                | (go_at_call 14; refine (refHighest_any (n := lL) cv HO5.out.rd HlL.out (by omega)).mono ?_; rintro e w' ⟨rfl, rfl⟩))
              go_roundw
              case rel => exact ⟨k + 1, nx, L, t, h, s, by omega, by go_num, rfl, hnx, HO5.out, by rw [HlL.out]; omega, HI.out, HX5.out, HQ5.out, by omega⟩
              case measure => simp [intOf]; omega
      · obtain rfl : k = n := by omega
        have HQr := Lib.hid hq
        have HXr := Lib.hid hx
        clear ho hI hx hq
        go_wp2_with (go_at_call 21; refine (lnext_any wr gl _ _ _ _ _ _ HXr.out).mono ?_; rintro e w' ⟨rfl, rfl⟩)
        go_ret
        exact ⟨rfl, HY3.out.trans (HQr.out.mono (by omega))⟩
end Go.Proofs.Ytkoefhbmkmepaaa
