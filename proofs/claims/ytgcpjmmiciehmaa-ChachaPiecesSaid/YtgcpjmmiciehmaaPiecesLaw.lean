/- ChachaPieces, the walk: the pieces that the program gives are the document's, as many as are asked for. -/
import Derived.Test.YtgcpjmmiciehmaaTwice
import Derived.Test.YtgcpjmmiciehmaaPieces
namespace Go.Proofs.Ytgcpjmmiciehmaa
open Go.RowKit
set_option linter.unusedVariables false
set_option linter.unusedSimpArgs false
attribute [local go_sem] Oper.semAt_some

/-- a part of a block is loaded, inside a fence -/
theorem wpListIn_load_part {F : Fence} {n : Nat} {P : Program} {ops : Array Oper} {rest : List Oper} {op : Oper} {a : Act} {w : World} {Q : Exit → Act → World → Prop} (hgd : Region.wanted op (yielded ops a.tmps) = true) (ty : TypeId) (x : Operand) (ho : op.op = .load ty x)
    (g o : Nat) (hx : a.eval x = .pointer (some ⟨g, o, none⟩)) (us : List Value) (hr : w.rangeAt g o us) (d : TypeDesc)
    (hu : P.underlying ty = some d) (hd : d.isRow = true) (hi : (P.info? ty).map (·.size) = some us.length)
    (h : wpListIn F n P ops Q rest (a.put op.dst (.agg us.toArray)) w) : wpListIn F n P ops Q (op :: rest) a w := by
  refine wpListIn_step fun K hK => ?_
  rw [if_pos hgd]
  have hl := run_loadVar_mid (P := P) w g o ty us d hr hu hd hi
  unfold Oper.wpIn
  refine ⟨fun f' hf' => by simp [Oper.about, ho] at hf', ?_⟩
  rw [semAt_exec _ _ _ (fun c => by rw [ho]; simp)]
  unfold execOp
  simp only [ho, hx, Instr.loadAt, Instr.sureAddr, Sem.run_bind, Sem.run_pure, Result.andThen_ok, hl, Oper.uponIn_value]
  exact hK _ _ h
theorem umod5 (cut : Int) : ∃ j : Nat, (IntKind.u64.wrap cut).tmod 5 = (j : Int) ∧ j ≤ 4 := umod_nat (IntKind.u64.wrap cut) 4 (by rw [ofint_u64]; unfold bv; omega)
theorem kp_row {W W' : World} {row : Option Nat} {B : Nat} {o : Obj} (h : W.heap[B]? = some o) (ho : o.isCells = true) (hg : W.grownBy W' row) (hr : ∀ r, row = some r → ∃ o : Obj, W.heap[r]? = some o ∧ o.isCells = false) : W'.heap[B]? = some o := by
  have hlt : B < W.heap.size := (Array.getElem?_eq_some_iff.1 h).1
  refine (hg.block B hlt (fun e => ?_)).trans h
  obtain ⟨o', ho', hn⟩ := hr B e.symm
  rw [h] at ho'; cases ho'; rw [ho] at hn; cases hn
/-- what the loop's own boxes hold -/
structure LI (z sK bk bn : Nat) (key : List (BitVec 8)) (A : Option Addr) (n c : Nat) (number : Int) (T : Option Addr) (m d : Nat) (mo : Int) (k : Nat) (W : World) : Prop where
  s : SBox W z key A n c number T m d
  m : Boxed W (z + 1) 3 (.int .i64 mo)
  r : ∃ b, Boxed W (z + 1 + 1) 4 (.bool b)
  k : Boxed W sK 3 (.int .i64 k)
  bk : Arr b8 W bk 38 key
  bn : Boxed W bn 22 (.slice A n c)
section
variable {z sK bk bn : Nat} {key : List (BitVec 8)} {A : Option Addr} {n c : Nat} {number : Int} {T : Option Addr} {m d : Nat} {mo : Int} {k k' : Nat} {W W' : World}
theorem LI.own {row : Option Nat} (h : LI z sK bk bn key A n c number T m d mo k W) (hg : W.grownBy W' row) (hr : ∀ r, row = some r → ∃ o : Obj, W.heap[r]? = some o ∧ o.isCells = false) : LI z sK bk bn key A n c number T m d mo k W' := by
  obtain ⟨h1, h2, ⟨b, h3⟩, h4, h5, h6⟩ := h
  exact ⟨kp_row h1 rfl hg hr, kp_row h2 rfl hg hr, ⟨b, kp_row h3 rfl hg hr⟩, kp_row h4 rfl hg hr, kp_row h5 rfl hg hr, kp_row h6 rfl hg hr⟩
theorem LI.below (h : LI z sK bk bn key A n c number T m d mo k W) (hb : Below W.heap.size W W') : LI z sK bk bn key A n c number T m d mo k W' := by
  obtain ⟨h1, h2, ⟨b, h3⟩, h4, h5, h6⟩ := h
  exact ⟨h1.below hb h1.lt, boxed_b h2 hb, ⟨b, boxed_b h3 hb⟩, boxed_b h4 hb, h5.below hb h5.lt, boxed_b h6 hb⟩
theorem LI.kp {n₀ : Nat} (h : LI z sK bk bn key A n c number T m d mo k W) (h' : LI z sK bk bn key A n c number T m d mo k' W') (hb : Below n₀ W W') : KpQ n₀ bk bn W W' := ⟨hb, Eq.trans h'.bk (Eq.symm h.bk), Eq.trans h'.bn (Eq.symm h.bn)⟩
theorem LI.setK (h : LI z sK bk bn key A n c number T m d mo k W) (h1 : z + 2 < sK) (h2 : sK < bk) (h3 : sK < bn) : LI z sK bk bn key A n c number T m d mo k' (W.setCell ⟨sK, 0, none⟩ (.int .i64 k')) := by
  obtain ⟨g1, g2, ⟨b, g3⟩, g4, g5, g6⟩ := h
  have far : ∀ {B : Nat} {o : Obj}, W.heap[B]? = some o → B ≠ sK → (W.setCell ⟨sK, 0, none⟩ (.int .i64 (k' : Int))).heap[B]? = some o := fun h hne => (Below.heap_setCell W ⟨sK, 0, none⟩ _ _ hne).trans h
  exact ⟨far g1 (by omega), far g2 (by omega), ⟨b, far g3 (by omega)⟩, g4.set _, far g5 (by omega), far g6 (by omega)⟩
end

set_option maxRecDepth 100000 in
set_option maxHeartbeats 4000000 in
theorem pieces_walk (key : List (BitVec 8)) (A : Option Addr) (n c : Nat) (nonce : List (BitVec 8)) (number : Int) (T : Option Addr) (m d : Nat) (text : List (BitVec 8)) (w : World) (hk : key.length = 32)
    (hr : Rd b8 w w.heap.size A nonce) (hn : nonce.length = n) (hnc : n ≤ c) (hc : c ≤ maxLen) (wf : (Lit.int .i64 number).wf = true) (ht : Rd b8 w w.heap.size T text) (hm : text.length = m) (hmd : m ≤ d) (hd : d ≤ maxLen) (most : Int) (wfc : (Lit.int .i64 most).wf = true) :
    Calls Try.prog 5 #[.agg (streamC key A n c number T m d).toArray, .int .i64 most] w fun e w' => e = .returned (.bool true) ∧ Below w.heap.size w w' := by
  have hq := bounds_i64 wf
  have HK := Lib.hid hk
  have HN := Lib.hid hn
  have HR := Lib.hid hr
  have hlg := fun w' => large03_any key A n c number T m d w' hk
  have HS := Lib.hid (SBox.new w key A n c number T m d)
  clear wfc ht hm
  by_cases hlarge : (decide ((1000 : Int) < n) || decide ((1000 : Int) < m)) = true
  · rw [hlarge] at hlg
    have HL := Lib.hid hlg
    clear hlg hlarge hk hn hr hq wf
    refine (callsIn_wide (n := 9)).1 ?_
    refine callsIn_of_wp_marks Try.func5 rfl trivial ?_ rfl
    simp only [Try.ntmps5, List.size_toArray, List.length_cons, List.length_nil, Nat.reduceAdd, Nat.reduceSub, Array.replicate_succ, Array.replicate_zero, List.push_toArray, List.append_toArray, List.nil_append, List.cons_append]
    gi_wp2_with fail
    generalize hW0 : World.alloc (World.alloc (World.alloc w _) _) _ = W0
    have hf : SBox W0 w.heap.size key A n c number T m d ∧ Boxed W0 (w.heap.size + 1) 3 (.int .i64 most) ∧ Boxed W0 (w.heap.size + 1 + 1) 4 (.bool false) ∧ Below w.heap.size w W0 ∧ W0.heap.size = w.heap.size + 3 := by
      rw [← hW0]
      refine ⟨?_, ?_, ?_, ?_, by simp⟩
      · exact (SBox.new w key A n c number T m d).below (B := w.heap.size + 1) (((Below.refl _ _).alloc (by simp) _).alloc (by simp) _) (by omega)
      · have := Boxed.new (w.alloc (.cells (streamC key A n c number T m d).toArray 40)) 3 (.int .i64 most)
        rw [World.size_alloc] at this
        exact this.alloc _
      · have := Boxed.new ((w.alloc (.cells (streamC key A n c number T m d).toArray 40)).alloc (.cells #[.int .i64 most] 3)) 4 (.bool false)
        rw [World.size_alloc, World.size_alloc] at this
        exact this
      · exact ((((Below.refl _ _).alloc (Nat.le_refl _) _).alloc (by simp) _).alloc (by simp; omega) _)
    obtain ⟨hs0, hm0, hr0, hb0, hz0⟩ := hf
    have HS0 := Lib.hid hs0
    have HM0 := Lib.hid hm0
    have HR0 := Lib.hid hr0
    have HB0 := Lib.hid hb0
    clear hW0 hs0 hm0 hr0 hb0 HS
    refine ⟨trivial, ?_⟩
    refine (callsIn_wide.2 (alive03_any _)).mono ?_
    rintro e w' ⟨rfl, rfl⟩
    gi_wp2_with (refine wpListIn_load_part rfl 40 (.tmp 2) rfl w.heap.size 0 rfl (streamC key A n c number T m d) HS0.out.all _ Try.underlying40 rfl (by rw [streamC_len HK.out]; exact infoStream) ?_)
    refine ⟨trivial, ?_⟩
    refine (callsIn_wide.2 (HL.out _)).mono ?_
    rintro e w1 ⟨rfl, hb1⟩
    have HS1 := Lib.hid (HS0.out.below hb1 (by omega))
    have HM1 := Lib.hid (boxed_b HM0.out hb1)
    have HR1 := Lib.hid (boxed_b HR0.out hb1)
    have HB1 := Lib.hid (HB0.out.trans (hb1.mono (by omega)) : Below w.heap.size w w1)
    have hz1 : w.heap.size + 3 ≤ w1.heap.size := by have := hb1.size; omega
    have cr := HR1.out.cell
    have fr := HR1.out.frozen
    clear hb1 HS0 HM0 HR0 HB0 HL
    gi_wp2_with fail
    have hc5 := World.cell?_setCell_same' w1 ⟨w.heap.size + 1 + 1, 0, none⟩ (.bool true) (by rw [cr]; rfl)
    exact ⟨.bool true, by simp [results, Try.f5, go_sem, hc5], rfl, HB1.out.setCell (p := ⟨w.heap.size + 1 + 1, 0, none⟩) (by simp; omega) _⟩
  · rw [Bool.not_eq_true] at hlarge
    rw [hlarge] at hlg
    have HL := Lib.hid hlg
    obtain ⟨j, hj, hj4⟩ := umod5 most
    have HJ := Lib.hid (show wrap64 ((IntKind.u64.wrap most).tmod 5) = (j : Int) by rw [hj]; exact IntWalk.wrap64_in _ (by omega))
    clear hlg hlarge hk hn hr wf hj
    refine (callsIn_wide (n := 9)).1 ?_
    refine callsIn_of_wp_marks Try.func5 rfl trivial ?_ rfl
    simp only [Try.ntmps5, List.size_toArray, List.length_cons, List.length_nil, Nat.reduceAdd, Nat.reduceSub, Array.replicate_succ, Array.replicate_zero, List.push_toArray, List.append_toArray, List.nil_append, List.cons_append]
    gi_wp2_with fail
    generalize hW0 : World.alloc (World.alloc (World.alloc w _) _) _ = W0
    have hf : SBox W0 w.heap.size key A n c number T m d ∧ Boxed W0 (w.heap.size + 1) 3 (.int .i64 most) ∧ Boxed W0 (w.heap.size + 1 + 1) 4 (.bool false) ∧ Below w.heap.size w W0 ∧ W0.heap.size = w.heap.size + 3 := by
      rw [← hW0]
      refine ⟨?_, ?_, ?_, ?_, by simp⟩
      · exact (SBox.new w key A n c number T m d).below (B := w.heap.size + 1) (((Below.refl _ _).alloc (by simp) _).alloc (by simp) _) (by omega)
      · have := Boxed.new (w.alloc (.cells (streamC key A n c number T m d).toArray 40)) 3 (.int .i64 most)
        rw [World.size_alloc] at this
        exact this.alloc _
      · have := Boxed.new ((w.alloc (.cells (streamC key A n c number T m d).toArray 40)).alloc (.cells #[.int .i64 most] 3)) 4 (.bool false)
        rw [World.size_alloc, World.size_alloc] at this
        exact this
      · exact ((((Below.refl _ _).alloc (Nat.le_refl _) _).alloc (by simp) _).alloc (by simp; omega) _)
    obtain ⟨hs0, hm0, hr0, hb0, hz0⟩ := hf
    have HS0 := Lib.hid hs0
    have HM0 := Lib.hid hm0
    have HR0 := Lib.hid hr0
    have HB0 := Lib.hid hb0
    clear hW0 hs0 hm0 hr0 hb0 HS
    refine ⟨trivial, ?_⟩
    refine (callsIn_wide.2 (alive03_any _)).mono ?_
    rintro e w' ⟨rfl, rfl⟩
    gi_wp2_with (refine wpListIn_load_part rfl 40 (.tmp 2) rfl w.heap.size 0 rfl (streamC key A n c number T m d) HS0.out.all _ Try.underlying40 rfl (by rw [streamC_len HK.out]; exact infoStream) ?_)
    refine ⟨trivial, ?_⟩
    refine (callsIn_wide.2 (HL.out _)).mono ?_
    rintro e w1 ⟨rfl, hb1⟩
    have HS1 := Lib.hid (HS0.out.below hb1 (by omega))
    have HM1 := Lib.hid (boxed_b HM0.out hb1)
    have HR1 := Lib.hid (boxed_b HR0.out hb1)
    have HB1 := Lib.hid (HB0.out.trans (hb1.mono (by omega)) : Below w.heap.size w w1)
    have hz1 : w.heap.size + 3 ≤ w1.heap.size := by have := hb1.size; omega
    have cr := HR1.out.cell
    have fr := HR1.out.frozen
    clear hb1 HS0 HM0 HR0 HB0 HL
    obtain ⟨P, hP⟩ : ∃ P, P = pieceV key nonce number := ⟨_, rfl⟩
    obtain ⟨bad, hbad⟩ : ∃ bad, bad = badP n number := ⟨_, rfl⟩
    have HPl := Lib.hid (show P.length = 64 by rw [hP]; exact pieceV_len _ _ _)
    have HP := Lib.hid hP
    have Hbad := Lib.hid hbad
    have hp := piece_any key A n c w.heap.size nonce number w1 HK.out (HR.out.below HB1.out) (by omega) HN.out hnc
    rw [arrV_mk, arrV_mk, ← hP, ← hbad] at hp
    have HPc := Lib.hid hp
    have cn := HS1.out.nonceC HK.out
    have cq := HS1.out.numC HK.out
    clear hp hP hbad
    gi_wp2_with (refine wpListIn_load_part rfl 38 (.tmp 19) rfl w.heap.size 0 rfl (key.map b8) (HS1.out.keyC HK.out) _ Try.underlying38 rfl (by rw [List.length_map, HK.out]; exact infoKeyS) ?_)
    refine ⟨trivial, ?_⟩
    refine (callsIn_wide.2 HPc.out).mono ?_
    rintro e w2 ⟨rfl, hb2⟩
    have HZ2 := Lib.hid (Arr.new b8 w2 41 (List.replicate 64 0#8))
    have HB2 := Lib.hid (HB1.out.trans (hb2.mono (by omega)) : Below w.heap.size w w2)
    have hz2 : w1.heap.size ≤ w2.heap.size := hb2.size
    have hl2 : w.heap.size + 3 ≤ w2.heap.size := by omega
    have HS2 := Lib.hid (HS1.out.below hb2 (by omega))
    have HM2 := Lib.hid (boxed_b HM1.out hb2)
    have HR2 := Lib.hid (boxed_b HR1.out hb2)
    clear cr fr cn cq HPc hb2 HS1 HM1 HR1 HB1 hz1
    have hst : ∀ w3, (w2.alloc (.cells ((List.replicate 64 0#8).map b8).toArray 41)).grownBy w3 (some w2.heap.size) → Below w2.heap.size w2 w3 ∧ w2.heap.size + 1 ≤ w3.heap.size := fun w3 hg =>
      ⟨((Below.refl _ _).alloc (Nat.le_refl _) _).grown hg (by simp) (fun k e => by cases e; exact Nat.le_refl _), by have := hg.size; simpa using this⟩
    have Hst := Lib.hid hst
    clear hst
    gi_wp2_with (first
      | (refine wpListIn_store_arr rfl 41 _ _ rfl w2.heap.size rfl P rfl _ _ HZ2.out (by rw [HPl.out]; rfl) (info64'' HPl.out) b8_one' ?_; intro w3 hp3 hg3; have HP3 := Lib.hid hp3; have HG3 := Lib.hid (Hst.out w3 hg3); clear hp3 hg3; have HS3 := Lib.hid (HS2.out.below HG3.out.1 (by omega)); have cn3 := HS3.out.nonceC HK.out; have cq3 := HS3.out.numC HK.out)
      | (refine wpListIn_load_part rfl 38 (.tmp 29) rfl w.heap.size 0 rfl (key.map b8) (HS3.out.keyC HK.out) _ Try.underlying38 rfl (by rw [List.length_map, HK.out]; exact infoKeyS) ?_))
    have HB3 := Lib.hid (HB2.out.trans (HG3.out.1.mono (by omega)) : Below w.heap.size w w3)
    have hz3 := HG3.out.2
    have HM3 := Lib.hid (boxed_b HM2.out HG3.out.1)
    have HR3 := Lib.hid (boxed_b HR2.out HG3.out.1)
    have hp := refPiece_any key A n c w.heap.size nonce number w3 HK.out (HR.out.below HB3.out) (by omega) HN.out hnc
    rw [arrV_mk, arrV_mk, ← HP.out, ← Hbad.out] at hp
    have HPc := Lib.hid hp
    clear hp
    refine ⟨trivial, ?_⟩
    refine (callsIn_wide.2 HPc.out).mono ?_
    rintro e w4 ⟨rfl, hb4⟩
    have HZ4 := Lib.hid (Arr.new b8 w4 41 (List.replicate 64 0#8))
    have HB4 := Lib.hid (HB3.out.trans (hb4.mono (by omega)) : Below w.heap.size w w4)
    have hz4 : w3.heap.size ≤ w4.heap.size := hb4.size
    have hl4 : w.heap.size + 3 ≤ w4.heap.size := by omega
    have HS4 := Lib.hid (HS3.out.below hb4 (by omega))
    have HM4 := Lib.hid (boxed_b HM3.out hb4)
    have HR4 := Lib.hid (boxed_b HR3.out hb4)
    have HP4 := Lib.hid (HP3.out.below hb4 HP3.out.lt)
    clear HS2 HM2 HR2 HB2 HG3 HZ2 HM3 HR3 HS3 HB3 hb4 HP3 HPc Hst cn3 cq3
    have hst : ∀ w5, (w4.alloc (.cells ((List.replicate 64 0#8).map b8).toArray 41)).grownBy w5 (some w4.heap.size) → Below w4.heap.size w4 w5 ∧ w4.heap.size + 1 ≤ w5.heap.size := fun w3 hg =>
      ⟨((Below.refl _ _).alloc (Nat.le_refl _) _).grown hg (by simp) (fun k e => by cases e; exact Nat.le_refl _), by have := hg.size; simpa using this⟩
    have Hst := Lib.hid hst
    have hneq : ∀ w, (binOp .neq 41 (.agg (P.map b8).toArray) (.agg (P.map b8).toArray)).run Try.prog w = .ok (.bool false) w := fun w => by
      rw [run_neq_b8 w 41 5 64 Try.underlying41 Try.underlying5 (fun _ => by kernel_rfl) P P HPl.out HPl.out]; simp
    clear hst
    gi_wp2_with (first
      | (refine wpListIn_store_arr rfl 41 _ _ rfl w4.heap.size rfl P rfl _ _ HZ4.out (by rw [HPl.out]; rfl) (info64'' HPl.out) b8_one' ?_; intro w5 hp5 hg5; have HP5 := Lib.hid hp5; have HG5 := Lib.hid (Hst.out w5 hg5); clear hp5 hg5; have HP45 := Lib.hid (HP4.out.below HG5.out.1 HP4.out.lt))
      | (refine wpListIn_load_arr rfl 41 (.tmp 5) rfl w2.heap.size rfl _ P HP45.out _ Try.underlying41 rfl (info64'' HPl.out) ?_)
      | (refine wpListIn_load_arr rfl 41 (.tmp 7) rfl w4.heap.size rfl _ P HP5.out _ Try.underlying41 rfl (info64'' HPl.out) ?_))
    have HB5 := Lib.hid (HB4.out.trans (HG5.out.1.mono (by omega)) : Below w.heap.size w w5)
    have hz5 := HG5.out.2
    have hl5 : w.heap.size + 3 ≤ w5.heap.size := by omega
    have HS5 := Lib.hid (HS4.out.below HG5.out.1 (by omega))
    have HM5 := Lib.hid (boxed_b HM4.out HG5.out.1)
    have HR5 := Lib.hid (boxed_b HR4.out HG5.out.1)
    clear HS4 HM4 HR4 HB4 HG5 HZ4 HP4 HP45 HP5 Hst hneq
    refine ⟨trivial, ?_⟩
    refine (callsIn_wide.2 (num_any bad _)).mono ?_
    rintro e w' ⟨rfl, rfl⟩
    have cm := HM5.out.cell
    have fm := HM5.out.frozen
    have HQ := Lib.hid hq
    clear hq
    have HF := Lib.hid (show ∀ W6, (w5.setCell ⟨w.heap.size + 1, 0, none⟩ (.int .i64 (wrap64 (1 + wrap64 ((IntKind.u64.wrap most).tmod 5))))).alloc (.cells #[.int .i64 0] 3) = W6 →
        SBox W6 w.heap.size key A n c number T m d ∧ Boxed W6 (w.heap.size + 1) 3 (.int .i64 (1 + (j : Int))) ∧ Boxed W6 (w.heap.size + 1 + 1) 4 (.bool false) ∧ Boxed W6 w5.heap.size 3 (.int .i64 0) ∧ Below w.heap.size w W6 ∧ W6.heap.size = w5.heap.size + 1 by
      rintro W6 rfl
      rw [HJ.out, show wrap64 (1 + (j : Int)) = 1 + (j : Int) from IntWalk.wrap64_in _ (by omega)]
      refine ⟨?_, ?_, ?_, ?_, ?_, by simp⟩
      · exact (show SBox (w5.setCell ⟨w.heap.size + 1, 0, none⟩ (.int .i64 (1 + (j : Int)))) w.heap.size key A n c number T m d from (Below.heap_setCell w5 ⟨w.heap.size + 1, 0, none⟩ _ _ (by simp)).trans HS5.out).below (B := w5.heap.size) ((Below.refl _ _).alloc (by simp) _) (by omega)
      · exact (HM5.out.set _).alloc _
      · exact (show Boxed (w5.setCell ⟨w.heap.size + 1, 0, none⟩ (.int .i64 (1 + (j : Int)))) (w.heap.size + 1 + 1) 4 (.bool false) from (Below.heap_setCell w5 ⟨w.heap.size + 1, 0, none⟩ _ _ (by simp)).trans HR5.out).alloc _
      · have := Boxed.new (w5.setCell ⟨w.heap.size + 1, 0, none⟩ (.int .i64 (1 + (j : Int)))) 3 (.int .i64 0)
        rwa [World.size_setCell] at this
      · exact (HB5.out.setCell (p := ⟨w.heap.size + 1, 0, none⟩) (by simp) _).alloc (by simp; omega) _)
    gi_wp2_with (generalize hW6 : World.alloc (World.setCell w5 _ _) _ = W6; have hf6 := HF.out W6 hW6; clear hW6; obtain ⟨hs6, hm6, hr6, hk6, hb6, hz6⟩ := hf6; have HS6 := Lib.hid hs6; have HM6 := Lib.hid hm6; have HR6 := Lib.hid hr6; have HK6 := Lib.hid hk6; have HB6 := Lib.hid hb6; have cn6 := hs6.nonceC HK.out; have cq6 := hs6.numC HK.out; clear hs6 hm6 hr6 hk6 hb6 cm fm; refine wpListIn_load_part rfl 38 (.tmp 52) rfl w.heap.size 0 rfl (key.map b8) (HS6.out.keyC HK.out) _ Try.underlying38 rfl (by rw [List.length_map, HK.out]; exact infoKeyS) ?_)
    have hp := pieces_any key A n c number W6
    rw [arrV_mk] at hp
    have HPc := Lib.hid hp
    clear hp HF HS5 HM5 HR5 HB5
    refine ⟨trivial, ?_⟩
    refine (callsIn_wide.2 HPc.out).mono ?_
    rintro e w7 ⟨rfl, hw7⟩
    have hsz6 : W6.heap.size = w5.heap.size + 1 := hz6
    have hf : LI w.heap.size w5.heap.size W6.heap.size (W6.heap.size + 1) key A n c number T m d (1 + (j : Int)) 0 w7 ∧ Boxed w7 (W6.heap.size + 2) 3 (.int .i64 number) ∧ Below w.heap.size w w7 ∧ w7.heap.size = W6.heap.size + 3 := by
      subst hw7
      have hb : Below W6.heap.size W6 (((W6.alloc (.cells (key.map b8).toArray 38)).alloc (.cells #[.slice A n c] 22)).alloc (.cells #[.int .i64 number] 3)) := (((Below.refl _ _).alloc (Nat.le_refl _) _).alloc (by simp) _).alloc (by simp; omega) _
      refine ⟨⟨HS6.out.below hb (by omega), boxed_b HM6.out hb, ⟨false, boxed_b HR6.out hb⟩, boxed_b HK6.out hb, ?_, ?_⟩, ?_, HB6.out.trans (hb.mono (by omega)), by simp⟩
      · exact ((Arr.new b8 W6 38 key).alloc _).alloc _
      · have := Boxed.new (W6.alloc (.cells (key.map b8).toArray 38)) 22 (.slice A n c)
        rw [World.size_alloc] at this
        exact this.alloc _
      · have := Boxed.new ((W6.alloc (.cells (key.map b8).toArray 38)).alloc (.cells #[.slice A n c] 22)) 3 (.int .i64 number)
        rw [World.size_alloc, World.size_alloc] at this
        exact this
    clear hw7 HPc cn6 cq6 HS6 HM6 HR6 HK6 HB6
    obtain ⟨hL7, hN7, hB7, hz7⟩ := hf
    have HN7 := Lib.hid hN7
    have hnn := HN.out
    have hb := HQ.out
    rw [hsz6] at hL7 hN7
    gi_wp2_with fail
    refine wpIn_rangeFunc_ownH rfl (by omega) (gf := 47) (lb := #[.pointer (some ⟨w5.heap.size + 1 + 2, 0, none⟩), .pointer (some ⟨w5.heap.size + 1, 0, none⟩), .pointer (some ⟨w5.heap.size + 1 + 1, 0, none⟩)]) rfl trivial (enters_of Try.func47 (by kernel_rfl) rfl)
      (pieces_stops 8 (by omega) key A n c nonce number (w5.heap.size + 1 + 2) (w5.heap.size + 1) (w5.heap.size + 1 + 1) w.heap.size HK.out HN.out hnc hb.1 (by omega) w7 hN7 hL7.bk hL7.bn (HR.out.below hB7) hB7.size)
      KpQ.t (fun W l o o' hl ho hc hw => ⟨(Below.refl _ W).grown (grownBy_putObj' W l o') (by have := (Array.getElem?_eq_some_iff.1 ho).1; omega) (fun k e => by cases e; omega), World.putObj_heap_other (by omega), World.putObj_heap_other (by omega)⟩) (Below.refl _ _) (fun _ => rfl)
      (fun pre W => (LI w.heap.size w5.heap.size (w5.heap.size + 1) (w5.heap.size + 1 + 1) key A n c number T m d (1 + (j : Int)) pre.length W ∧ pre.map Subtype.val = itemsTo key nonce number pre.length ∧ pre.length < 1 + j) ∧ Below w.heap.size w W)
      (fun c' pre W => ((c' = .ret ∧ ¬ ∃ k, pre.map Subtype.val = itemsTo key nonce number k) ∨ (c' = .exit 0 ∧ LI w.heap.size w5.heap.size (w5.heap.size + 1) (w5.heap.size + 1 + 1) key A n c number T m d (1 + (j : Int)) pre.length W ∧ pre.length = 1 + j)) ∧ Below w.heap.size w W)
      (OwnFrom.and (Go.Own.from (fun s A' B' row hs hg hr => ⟨hs.1.own hg hr, hs.2⟩) _) (ownFrom_below (Nat.le_refl _) (by omega)))
      (fun c => OwnFrom.and (Go.Own.from (fun s A' B' row hs hg hr => hs.elim .inl (fun h => .inr ⟨h.1, h.2.1.own hg hr, h.2.2⟩)) _) (ownFrom_below (Nat.le_refl _) (by omega)))
      ⟨⟨hL7, rfl, by simp; omega⟩, hB7⟩
      (fun x a' W => ∃ g, a' = { tmps := #[.agg (streamC key A n c number T m d).toArray, .int .i64 most, .pointer (some ⟨w.heap.size, 0, none⟩), .pointer (some ⟨w.heap.size + 1, 0, none⟩), .pointer (some ⟨w.heap.size + 1 + 1, 0, none⟩), .pointer (some ⟨w2.heap.size, 0, none⟩), errV bad, .pointer (some ⟨w4.heap.size, 0, none⟩), .int .i64 bad, .pointer (some ⟨w5.heap.size, 0, none⟩), .int .i64 x.1.1, .pointer (some ⟨g, 0, none⟩), undef, undef, .bool true, .bool false, .agg (streamC key A n c number T m d).toArray, .bool false, .tuple #[.agg (P.map b8).toArray, errV bad], .pointer (some ⟨w.heap.size, 0, none⟩), .agg (key.map b8).toArray, .pointer (some ⟨w.heap.size, 32, none⟩), .slice A n c, .pointer (some ⟨w.heap.size, 33, none⟩), .int .i64 number, .tuple #[.agg (P.map b8).toArray, errV bad], .agg (P.map b8).toArray, errV bad, .tuple #[.agg (P.map b8).toArray, .int .i64 bad], .pointer (some ⟨w.heap.size, 0, none⟩), .agg (key.map b8).toArray, .pointer (some ⟨w.heap.size, 32, none⟩), .slice A n c, .pointer (some ⟨w.heap.size, 33, none⟩), .int .i64 number, .tuple #[.agg (P.map b8).toArray, .int .i64 bad], .agg (P.map b8).toArray, .int .i64 bad, .agg (P.map b8).toArray, .agg (P.map b8).toArray, .bool false, .bool false, errV bad, .int .i64 bad, .int .i64 bad, .bool false, .bool false, .int .i64 most, .int .u64 (IntKind.u64.wrap most), .int .u64 ((IntKind.u64.wrap most).tmod 5), .int .i64 (wrap64 ((IntKind.u64.wrap most).tmod 5)), .int .i64 (wrap64 (1 + wrap64 ((IntKind.u64.wrap most).tmod 5))), .pointer (some ⟨w.heap.size, 0, none⟩), .agg (key.map b8).toArray, .pointer (some ⟨w.heap.size, 32, none⟩), .slice A n c, .pointer (some ⟨w.heap.size, 33, none⟩), .int .i64 number, .func (.func 47) #[] #[.pointer (some ⟨w5.heap.size + 1 + 2, 0, none⟩), .pointer (some ⟨w5.heap.size + 1, 0, none⟩), .pointer (some ⟨w5.heap.size + 1 + 1, 0, none⟩)], .int .i64 x.1.1, .agg (x.1.2.map b8).toArray, undef, undef, undef, undef, undef, undef, undef, undef, undef, undef, undef, undef, undef, undef, undef, undef, undef, undef, undef, undef, undef, undef, undef, undef, undef, undef, undef, undef, undef, undef, undef, undef, undef, undef, undef, undef, undef, undef, undef, undef, undef, undef, undef], defers := [] } ∧ Arr b8 W g 41 x.1.2)
      (fun x a' s W W' row hs hg hr => by obtain ⟨g, e, hA⟩ := hs; exact ⟨g, e, kp_row hA rfl hg (fun r e => (hr r e).2)⟩) ?assign ?body ?done ?stop
    case assign =>
      rintro l pre x W K ⟨⟨hM, hlen⟩, hB'⟩ hK
      have HZ := Lib.hid (Arr.new b8 W 41 (List.replicate 64 0#8))
      have HX := Lib.hid x.2.2.2
      have HKK := Lib.hid hK
      have HM' := Lib.hid hM
      have Hlen := Lib.hid hlen
      clear hK hM hlen
      simp only [encP, List.zip_toArray, List.zip_cons_cons, List.zip_nil_right, List.zip_nil_left, List.foldl_toArray', List.foldl_toArray, List.foldl_cons, List.foldl_nil, List.setIfInBounds_toArray, List.set_cons_zero, List.set_cons_succ]
      gi_wp2_with (refine wpListIn_store_arr rfl 41 _ _ rfl W.heap.size rfl x.1.2 rfl _ _ HZ.out (by rw [HX.out]; rfl) (info64'' HX.out) b8_one' ?_; intro w2 hp2 hg2; have HP2 := Lib.hid hp2; have HG2 := Lib.hid hg2; clear hp2 hg2)
      have hg : W.grownBy w2 none := grownBy_trans (World.grownBy_alloc W _ none) HG2.out (fun g e => by cases e; exact .inr (Nat.le_refl _))
      have hbw : Below W.heap.size W w2 := (Below.refl _ W).grown hg (Nat.le_refl _) (fun k e => by cases e)
      have hM2 := HM'.out.below hbw
      exact HKK.out _ w2 ((KeepsOthers.of_grownBy hg (fun j o e => by cases e)).from _) (HM'.out.kp hM2 (hbw.mono hB'.size)) ⟨⟨hM2, Hlen.out⟩, hB'.trans (hbw.mono hB'.size)⟩ ⟨W.heap.size, rfl, HP2.out⟩
    case body =>
      rintro l pre x a' W hl hrec ⟨⟨hL, hpre, hlt⟩, hB'⟩ ⟨g, rfl, hA⟩ hN'
      obtain ⟨k, hk⟩ : ∃ k, k = pre.length := ⟨_, rfl⟩
      rw [← hk] at hL hpre hlt hN'
      have hbz : badP n number = 0 := by
        unfold countP at hN'
        by_cases hz : badP n number = 0
        · exact hz
        · rw [if_neg hz] at hN'; omega
      have hN2 : k < (4294967296 - number).toNat := by unfold countP at hN'; rwa [if_pos hbz] at hN'
      obtain ⟨h12, g0, g1⟩ := badP_zero hbz
      subst h12
      have hbk : badP 12 (number + (k : Int)) = 0 := by rw [badP_at hbz, if_pos (by omega)]
      obtain ⟨Q, hQ⟩ : ∃ Q, Q = pieceV key nonce (number + (k : Int)) := ⟨_, rfl⟩
      have HQl := Lib.hid (show Q.length = 64 by rw [hQ]; exact pieceV_len _ _ _)
      have HX := Lib.hid x.2.2.2
      have hitem : itemP key nonce number k = (number + (k : Int), Q) := by
        rw [hQ]; unfold itemP pieceV; rw [HN.out, if_pos hbk]
      have hps : (pre ++ [x]).map Subtype.val = itemsTo key nonce number (k + 1) ↔ x.1 = (number + (k : Int), Q) := by
        rw [List.map_append, hpre, itemsTo_succ, hitem]; simp
      have hps2 : (∃ k', (pre ++ [x]).map Subtype.val = itemsTo key nonce number k') → x.1 = (number + (k : Int), Q) := by
        rintro ⟨k', h⟩
        have hl := congrArg List.length h
        rw [itemsTo_len, List.length_map, List.length_append, ← hk] at hl
        obtain rfl : k' = k + 1 := by simp at hl; omega
        exact hps.1 h
      have hp := fun W' (hb : Below w.heap.size w W') => refPiece_any key A 12 c w.heap.size nonce (number + (k : Int)) W' HK.out (HR.out.below hb) hb.size HN.out hnc
      simp only [arrV_mk, ← hQ, hbk] at hp
      have HPc := Lib.hid (hp W hB')
      have HA := Lib.hid hA
      have HL := Lib.hid hL
      have HB' := Lib.hid hB'
      have Hps := Lib.hid hps
      have Hps2 := Lib.hid hps2
      have Hk := Lib.hid hk
      have hsum : wrap64 (number + (k : Int)) = number + (k : Int) := IntWalk.wrap64_in _ (by omega)
      have cn := hL.s.nonceC HK.out
      have cq := hL.s.numC HK.out
      have ck := hL.k.cell
      clear hQ hitem hps hps2 hp hA hL hB' hpre hN' hrec hk
      gi_wp2_with (refine wpListIn_load_part rfl 38 (.tmp 62) rfl w.heap.size 0 rfl (key.map b8) (HL.out.s.keyC HK.out) _ Try.underlying38 rfl (by rw [List.length_map, HK.out]; exact infoKeyS) ?_)
      refine ⟨trivial, ?_⟩
      refine (CallsIn.inRound l (callsIn_wide.2 HPc.out)).mono ?_
      rintro e w6 ⟨rfl, hb6⟩
      rw [show ((0 : Nat) : Int) = 0 from rfl]
      have HZ6 := Lib.hid (Arr.new b8 w6 41 (List.replicate 64 0#8))
      have hz6 : W.heap.size ≤ w6.heap.size := hb6.size
      have hst : ∀ w7, (w6.alloc (.cells ((List.replicate 64 0#8).map b8).toArray 41)).grownBy w7 (some w6.heap.size) → Below w6.heap.size w6 w7 ∧ w6.heap.size + 1 ≤ w7.heap.size := fun w3 hg =>
        ⟨((Below.refl _ _).alloc (Nat.le_refl _) _).grown hg (by simp) (fun k e => by cases e; exact Nat.le_refl _), by have := hg.size; simpa using this⟩
      have Hst := Lib.hid hst
      have HL6 := Lib.hid (HL.out.below hb6)
      have HA6 := Lib.hid (HA.out.below hb6 HA.out.lt)
      have HB6 := Lib.hid hb6
      obtain ⟨dx, hdx⟩ : ∃ dx, dx = !(x.1.2 == Q) := ⟨_, rfl⟩
      have hneq : ∀ w, (binOp .neq 41 (.agg (x.1.2.map b8).toArray) (.agg (Q.map b8).toArray)).run Try.prog w = .ok (.bool dx) w := fun w => by
        rw [hdx]; exact run_neq_b8 w 41 5 64 Try.underlying41 Try.underlying5 (fun _ => by kernel_rfl) x.1.2 Q HX.out HQl.out
      clear hst hb6 cn cq ck
      by_cases hxq : x.1.2 = Q
      · have hd0 : dx = false := by rw [hdx, hxq]; simp
        subst hd0
        by_cases hxn : x.1.1 = number + (k : Int)
        · have hxn' : (x.1.1 != number + (k : Int)) = false := by simpa using hxn
          have Hx := Lib.hid (show x.1 = (number + (k : Int), Q) from Prod.ext hxn hxq)
          clear hxq hxn hdx
          by_cases hkj : k = j
          · have hkm' : (((k : Int) + 1) == 1 + (j : Int)) = true := by rw [beq_iff_eq]; omega
            have Hkj := Lib.hid hkj
            clear hkj
            gi_wp2_with (first
              | (refine wpListIn_store_arr rfl 41 _ _ rfl w6.heap.size rfl Q rfl _ _ HZ6.out (by rw [HQl.out]; rfl) (info64'' HQl.out) b8_one' ?_; intro w8 hp8 hg8; have HP8 := Lib.hid hp8; have HG8 := Lib.hid (Hst.out w8 hg8); clear hp8 hg8; have HL8 := Lib.hid (HL6.out.below HG8.out.1); have HA8 := Lib.hid (HA6.out.below HG8.out.1 HA6.out.lt); have HB8 := Lib.hid (HB6.out.trans (HG8.out.1.mono hz6) : Below W.heap.size W w8); have cq8 := HL8.out.s.numC HK.out; have ck8 := HL8.out.k.cell; have fk8 := HL8.out.k.frozen; have cm8 := HL8.out.m.cell; obtain ⟨rb, hrb⟩ := HL8.out.r; have cr8 := hrb.cell; have fr8 := hrb.frozen; clear hrb)
              | (refine wpListIn_load_arr rfl 41 (.tmp 11) rfl g rfl _ x.1.2 HA8.out _ Try.underlying41 rfl (info64'' HX.out) ?_)
              | (refine wpListIn_load_arr rfl 41 (.tmp 12) rfl w6.heap.size rfl _ Q HP8.out _ Try.underlying41 rfl (info64'' HQl.out) ?_))
            have hko : KeepsOthers W w8 := KeepsOthers.of_grownBy (grown_none' HB8.out) (fun j o e => by cases e)
            have hbw : Below w.heap.size w w8 := HB'.out.trans (HB8.out.mono HB'.out.size)
            refine ⟨(hko.trans (KeepsOthers.setCell _ _ _)).from _, .inr ⟨rfl, ?_, ?_⟩, hbw.setCell (p := ⟨w5.heap.size, 0, none⟩) (by simp; omega) _⟩
            · have := HL8.out.setK (k' := k + 1) (by omega) (by omega) (by omega)
              rw [List.length_append, ← Hk.out]; exact this
            · rw [List.length_append, ← Hk.out, Hkj.out]; simp; omega
          · have hkm' : (((k : Int) + 1) == 1 + (j : Int)) = false := by rw [beq_eq_false_iff_ne]; omega
            gi_wp2_with (first
              | (refine wpListIn_store_arr rfl 41 _ _ rfl w6.heap.size rfl Q rfl _ _ HZ6.out (by rw [HQl.out]; rfl) (info64'' HQl.out) b8_one' ?_; intro w8 hp8 hg8; have HP8 := Lib.hid hp8; have HG8 := Lib.hid (Hst.out w8 hg8); clear hp8 hg8; have HL8 := Lib.hid (HL6.out.below HG8.out.1); have HA8 := Lib.hid (HA6.out.below HG8.out.1 HA6.out.lt); have HB8 := Lib.hid (HB6.out.trans (HG8.out.1.mono hz6) : Below W.heap.size W w8); have cq8 := HL8.out.s.numC HK.out; have ck8 := HL8.out.k.cell; have fk8 := HL8.out.k.frozen; have cm8 := HL8.out.m.cell; obtain ⟨rb, hrb⟩ := HL8.out.r; have cr8 := hrb.cell; have fr8 := hrb.frozen; clear hrb)
              | (refine wpListIn_load_arr rfl 41 (.tmp 11) rfl g rfl _ x.1.2 HA8.out _ Try.underlying41 rfl (info64'' HX.out) ?_)
              | (refine wpListIn_load_arr rfl 41 (.tmp 12) rfl w6.heap.size rfl _ Q HP8.out _ Try.underlying41 rfl (info64'' HQl.out) ?_))
            have hko : KeepsOthers W w8 := KeepsOthers.of_grownBy (grown_none' HB8.out) (fun j o e => by cases e)
            have hbw : Below w.heap.size w w8 := HB'.out.trans (HB8.out.mono HB'.out.size)
            refine ⟨(hko.trans (KeepsOthers.setCell _ _ _)).from _, HL.out.kp (HL8.out.setK (k' := k + 1) (by omega) (by omega) (by omega)) ((HB8.out.mono HB'.out.size).setCell (p := ⟨w5.heap.size, 0, none⟩) (by simp; omega) _), ⟨?_, ?_, ?_⟩, hbw.setCell (p := ⟨w5.heap.size, 0, none⟩) (by simp; omega) _⟩
            · have := HL8.out.setK (k' := k + 1) (by omega) (by omega) (by omega)
              rw [List.length_append, ← Hk.out]; exact this
            · rw [List.length_append, ← Hk.out]; exact Hps.out.2 Hx.out
            · rw [List.length_append, ← Hk.out]; simp; omega
        · have hxn' : (x.1.1 != number + (k : Int)) = true := by simpa using hxn
          have Hx := Lib.hid hxn
          clear hxq hxn hdx
          gi_wp2_with (first
            | (refine wpListIn_store_arr rfl 41 _ _ rfl w6.heap.size rfl Q rfl _ _ HZ6.out (by rw [HQl.out]; rfl) (info64'' HQl.out) b8_one' ?_; intro w8 hp8 hg8; have HP8 := Lib.hid hp8; have HG8 := Lib.hid (Hst.out w8 hg8); clear hp8 hg8; have HL8 := Lib.hid (HL6.out.below HG8.out.1); have HA8 := Lib.hid (HA6.out.below HG8.out.1 HA6.out.lt); have HB8 := Lib.hid (HB6.out.trans (HG8.out.1.mono hz6) : Below W.heap.size W w8); have cq8 := HL8.out.s.numC HK.out; have ck8 := HL8.out.k.cell; have fk8 := HL8.out.k.frozen; have cm8 := HL8.out.m.cell; obtain ⟨rb, hrb⟩ := HL8.out.r; have cr8 := hrb.cell; have fr8 := hrb.frozen; clear hrb)
            | (refine wpListIn_load_arr rfl 41 (.tmp 11) rfl g rfl _ x.1.2 HA8.out _ Try.underlying41 rfl (info64'' HX.out) ?_)
            | (refine wpListIn_load_arr rfl 41 (.tmp 12) rfl w6.heap.size rfl _ Q HP8.out _ Try.underlying41 rfl (info64'' HQl.out) ?_))
          have hko : KeepsOthers W w8 := KeepsOthers.of_grownBy (grown_none' HB8.out) (fun j o e => by cases e)
          have hbw : Below w.heap.size w w8 := HB'.out.trans (HB8.out.mono HB'.out.size)
          exact ⟨(hko.trans (KeepsOthers.setCell _ _ _)).from _, .inl ⟨rfl, fun h => Hx.out (by rw [Hps2.out h])⟩, hbw.setCell (p := ⟨w.heap.size + 1 + 1, 0, none⟩) (by simp; omega) _⟩
      · have hd0 : dx = true := by rw [hdx]; simpa using hxq
        subst hd0
        have Hx := Lib.hid hxq
        clear hxq hdx
        gi_wp2_with (first
          | (refine wpListIn_store_arr rfl 41 _ _ rfl w6.heap.size rfl Q rfl _ _ HZ6.out (by rw [HQl.out]; rfl) (info64'' HQl.out) b8_one' ?_; intro w8 hp8 hg8; have HP8 := Lib.hid hp8; have HG8 := Lib.hid (Hst.out w8 hg8); clear hp8 hg8; have HL8 := Lib.hid (HL6.out.below HG8.out.1); have HA8 := Lib.hid (HA6.out.below HG8.out.1 HA6.out.lt); have HB8 := Lib.hid (HB6.out.trans (HG8.out.1.mono hz6) : Below W.heap.size W w8); have cq8 := HL8.out.s.numC HK.out; have ck8 := HL8.out.k.cell; have fk8 := HL8.out.k.frozen; have cm8 := HL8.out.m.cell; obtain ⟨rb, hrb⟩ := HL8.out.r; have cr8 := hrb.cell; have fr8 := hrb.frozen; clear hrb)
          | (refine wpListIn_load_arr rfl 41 (.tmp 11) rfl g rfl _ x.1.2 HA8.out _ Try.underlying41 rfl (info64'' HX.out) ?_)
          | (refine wpListIn_load_arr rfl 41 (.tmp 12) rfl w6.heap.size rfl _ Q HP8.out _ Try.underlying41 rfl (info64'' HQl.out) ?_))
        have hko : KeepsOthers W w8 := KeepsOthers.of_grownBy (grown_none' HB8.out) (fun j o e => by cases e)
        have hbw : Below w.heap.size w w8 := HB'.out.trans (HB8.out.mono HB'.out.size)
        exact ⟨(hko.trans (KeepsOthers.setCell _ _ _)).from _, .inl ⟨rfl, fun h => Hx.out (by rw [Hps2.out h])⟩, hbw.setCell (p := ⟨w.heap.size + 1 + 1, 0, none⟩) (by simp; omega) _⟩
    case done =>
      rintro D ys W hD hys ⟨⟨hL, hpre, hlt⟩, hB'⟩ hK
      have HL := Lib.hid hL
      have ck := hL.k.cell
      have cm := hL.m.cell
      have cq := hL.s.numC HK.out
      obtain ⟨rb, hrb⟩ := hL.r
      have cr := hrb.cell
      have fr := hrb.frozen
      obtain ⟨k, hk⟩ : ∃ k, k = ys.length := ⟨_, rfl⟩
      rw [← hk] at ck hlt
      have hkc : k = countP n number := by have := congrArg List.length hys; rw [List.length_map, itemsTo_len] at this; omega
      have Hk := Lib.hid hk
      clear hL hrb hpre hys hk
      by_cases hbz : badP n number = 0
      · have hbad0 : bad = 0 := Hbad.out.trans hbz
        obtain ⟨h12, g0, g1⟩ := badP_zero hbz
        have hkn : (k : Int) = 4294967296 - number := by rw [hkc]; unfold countP; rw [if_pos hbz]; omega
        have hsub : wrap64 (4294967296 - number) = (k : Int) := by rw [← hkn]; exact IntWalk.wrap64_in _ (by omega)
        have hm1 : (k : Int) < 1 + (j : Int) := by omega
        have hm2 : ((1 + (j : Int)) < (k : Int)) = False := by simp; omega
        have hm3 : ((1 + (j : Int)) ≤ (k : Int)) = False := by simp; omega
        have hm4 : (k : Int) ≤ 1 + (j : Int) := by omega
        subst hbad0
        clear hkc hbz h12 hkn g0 g1 hlt
        gi_wp2_with fail
        have hK' := (KeepsOthers.setCell W ⟨w.heap.size + 1 + 1, 0, none⟩ (.bool true)).same D _ hK rfl
        refine ⟨by simp, .inl ⟨_, _, rfl, run_takeDeferred hK', ?_⟩⟩
        have hc5 := cell_kept (World.cell?_setCell_same' W ⟨w.heap.size + 1 + 1, 0, none⟩ (.bool true) (by rw [cr]; rfl)) (grownBy_putObj' _ D (.deferred none)) (fun r e => by cases e; exact ⟨_, hK', rfl⟩)
        refine ⟨.bool true, ?_, rfl, (hB'.setCell (p := ⟨w.heap.size + 1 + 1, 0, none⟩) (by simp; omega) _).trans (belowK_b (w := w) (Nat.le_refl _) _ D _ _ (by omega) hK' rfl rfl)⟩
        simp [results, Try.f5, go_sem, hc5]
      · have hk0 : k = 0 := by rw [hkc]; unfold countP; rw [if_neg hbz]
        have hbne : ((bad : Int) != 0) = true := by rw [Hbad.out]; simpa using hbz
        subst hk0
        clear hkc hbz
        gi_wp2_with fail
        have hK' := (KeepsOthers.setCell W ⟨w.heap.size + 1 + 1, 0, none⟩ (.bool true)).same D _ hK rfl
        refine ⟨by simp, .inl ⟨_, _, rfl, run_takeDeferred hK', ?_⟩⟩
        have hc5 := cell_kept (World.cell?_setCell_same' W ⟨w.heap.size + 1 + 1, 0, none⟩ (.bool true) (by rw [cr]; rfl)) (grownBy_putObj' _ D (.deferred none)) (fun r e => by cases e; exact ⟨_, hK', rfl⟩)
        refine ⟨.bool true, ?_, rfl, (hB'.setCell (p := ⟨w.heap.size + 1 + 1, 0, none⟩) (by simp; omega) _).trans (belowK_b (w := w) (Nat.le_refl _) _ D _ _ (by omega) hK' rfl rfl)⟩
        simp [results, Try.f5, go_sem, hc5]
    case stop =>
      rintro D c' pre W hD hpre ⟨hcase, hB'⟩ hK
      rcases hcase with ⟨rfl, hn⟩ | ⟨rfl, hL, hlt⟩
      · obtain ⟨k, -, hkm⟩ := hpre
        exact absurd ⟨k, hkm⟩ hn
      obtain ⟨k, hkc, hkm⟩ := hpre
      have hke : k = 1 + j := by have := congrArg List.length hkm; rw [List.length_map, itemsTo_len] at this; omega
      have HL := Lib.hid hL
      have ck := hL.k.cell
      have cm := hL.m.cell
      have cq := hL.s.numC HK.out
      obtain ⟨rb, hrb⟩ := hL.r
      have cr := hrb.cell
      have fr := hrb.frozen
      rw [hlt, show (((1 + j : Nat)) : Int) = 1 + (j : Int) by omega] at ck
      have hbz : badP n number = 0 := by
        unfold countP at hkc
        by_cases hz : badP n number = 0
        · exact hz
        · rw [if_neg hz] at hkc; omega
      have hbad0 : bad = 0 := Hbad.out.trans hbz
      obtain ⟨h12, g0, g1⟩ := badP_zero hbz
      have hR : 1 + (j : Int) ≤ 4294967296 - number := by unfold countP at hkc; rw [if_pos hbz] at hkc; omega
      obtain ⟨R, hRe⟩ : ∃ R, R = 4294967296 - number := ⟨_, rfl⟩
      have hsub : wrap64 (4294967296 - number) = R := by rw [hRe]; exact IntWalk.wrap64_in _ (by omega)
      rw [← hRe] at hR
      subst hbad0
      clear hL hrb hlt hkm hkc hke hbz h12 hRe g0 g1
      by_cases hRj : R = 1 + (j : Int)
      · subst hRj
        clear hR
        gi_wp2_with fail
        have hK' := (KeepsOthers.setCell W ⟨w.heap.size + 1 + 1, 0, none⟩ (.bool true)).same D _ hK rfl
        refine ⟨by simp, .inl ⟨_, _, rfl, run_takeDeferred hK', ?_⟩⟩
        have hc5 := cell_kept (World.cell?_setCell_same' W ⟨w.heap.size + 1 + 1, 0, none⟩ (.bool true) (by rw [cr]; rfl)) (grownBy_putObj' _ D (.deferred none)) (fun r e => by cases e; exact ⟨_, hK', rfl⟩)
        refine ⟨.bool true, ?_, rfl, (hB'.setCell (p := ⟨w.heap.size + 1 + 1, 0, none⟩) (by simp; omega) _).trans (belowK_b (w := w) (Nat.le_refl _) _ D _ _ (by omega) hK' rfl rfl)⟩
        simp [results, Try.f5, go_sem, hc5]
      · have hm1 : 1 + (j : Int) < R := by omega
        have hm2 : (R < 1 + (j : Int)) = False := by simp; omega
        have hm3 : (R ≤ 1 + (j : Int)) = False := by simp; omega
        clear hRj
        gi_wp2_with fail
        have hK' := (KeepsOthers.setCell W ⟨w.heap.size + 1 + 1, 0, none⟩ (.bool true)).same D _ hK rfl
        refine ⟨by simp, .inl ⟨_, _, rfl, run_takeDeferred hK', ?_⟩⟩
        have hc5 := cell_kept (World.cell?_setCell_same' W ⟨w.heap.size + 1 + 1, 0, none⟩ (.bool true) (by rw [cr]; rfl)) (grownBy_putObj' _ D (.deferred none)) (fun r e => by cases e; exact ⟨_, hK', rfl⟩)
        refine ⟨.bool true, ?_, rfl, (hB'.setCell (p := ⟨w.heap.size + 1 + 1, 0, none⟩) (by simp; omega) _).trans (belowK_b (w := w) (Nat.le_refl _) _ D _ _ (by omega) hK' rfl rfl)⟩
        simp [results, Try.f5, go_sem, hc5]
end Go.Proofs.Ytgcpjmmiciehmaa
