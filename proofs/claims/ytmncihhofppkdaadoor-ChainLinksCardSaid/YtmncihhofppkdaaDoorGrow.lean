/- CONTRACT: chain.grow: the secrets of the leaves below a node. -/
import Derived.Test.YtmncihhofppkdaaDoorChainsC
import Derived.Test.YtmncihhofppkdaaDoorSeatT
import Derived.Deep.Cut
namespace Go.Proofs.YtmncihhofppkdaaDoor
open Go.RowKit
set_option linter.unusedVariables false
set_option linter.unusedSimpArgs false

/-- the secrets of the leaves below a node of level k -/
def secs : Nat → List (BitVec 8) → List (List (BitVec 8))
  | 0, s => [s]
  | k + 1, s => secs k (derV s lLeft) ++ secs k (derV s lRight)
theorem secs_len (k : Nat) : ∀ s, (secs k s).length = 2 ^ k := by
  induction k with
  | zero => intro s; rfl
  | succ k ih => intro s; simp only [secs, List.length_append, ih]; rw [Nat.pow_succ]; omega
theorem secs_32 (k : Nat) : ∀ s : List (BitVec 8), s.length = 32 → ∀ z ∈ secs k s, z.length = 32 := by
  induction k with
  | zero => intro s hs z hz; simp only [secs, List.mem_singleton] at hz; subst hz; exact hs
  | succ k ih =>
    intro s hs z hz
    simp only [secs, List.mem_append] at hz
    rcases hz with h | h
    · exact ih _ (derV_len _ _) z h
    · exact ih _ (derV_len _ _) z h
def leafC (s : List (BitVec 8)) (g : Nat) : List Value := lineC false 0 0#64 s 0 (.map (some g))
def leavesC (ss : List (List (BitVec 8))) (gs : List Nat) : List Value := (List.zipWith leafC ss gs).flatten
theorem leavesC_app (a b : List (List (BitVec 8))) (g h : List Nat) (hl : a.length = g.length) : leavesC (a ++ b) (g ++ h) = leavesC a g ++ leavesC b h := by
  unfold leavesC
  rw [List.zipWith_append hl, List.flatten_append]
theorem leavesC_len : ∀ (ss : List (List (BitVec 8))) (gs : List Nat), (∀ z ∈ ss, z.length = 32) → ss.length = gs.length → (leavesC ss gs).length = 37 * ss.length
  | [], [], _, _ => rfl
  | s :: ss, g :: gs, h, hl => by
    have ih := leavesC_len ss gs (fun z hz => h z (by simp [hz])) (by simpa using hl)
    unfold leavesC at ih ⊢
    rw [List.zipWith_cons_cons, List.flatten_cons, List.length_append, ih, List.length_cons]
    show (lineC false 0 0#64 s 0 (.map (some g))).length + _ = _
    rw [lineC_len _ _ _ _ _ _ (h s (by simp))]; omega
set_option maxRecDepth 100000 in
theorem built_line (s : List (BitVec 8)) (h : s.length = 32) (m : Option Nat) : Tryd.prog.built 81 [(1, .agg (s.map b8).toArray), (3, .map m)] = some (lineC false 0 0#64 s 0 (.map m)).toArray := by
  obtain ⟨x0, x1, x2, x3, x4, x5, x6, x7, x8, x9, x10, x11, x12, x13, x14, x15, x16, x17, x18, x19, x20, x21, x22, x23, x24, x25, x26, x27, x28, x29, x30, x31, rfl⟩ := list_of32 h
  kernel_rfl
/-- the node of level k above the leaves from a on -/
def nodeX (k a : Nat) : Nat := 2 * a + 2 ^ k - 1
theorem kids : ∀ k : Nat, k ≤ 5 → ∀ q : Nat, q ≤ 32 → (q + 1) * 2 ^ k ≤ 32 → (if k = 0 then childL (nodeX k (q * 2 ^ k) : Int) = -1 else childL (nodeX k (q * 2 ^ k) : Int) = (nodeX (k - 1) (q * 2 ^ k) : Int) ∧ childR (nodeX k (q * 2 ^ k) : Int) = (nodeX (k - 1) (q * 2 ^ k + 2 ^ (k - 1)) : Int)) := by decide +kernel
theorem Tab.grown {w w' : World} {g : Nat} (h : Tab w) (hb : w.grownBy w' (some g)) (hg : 1 ≠ g) : Tab w' := fun j hj => (World.cell?_of_block (a := ⟨1, j, none⟩) (hb.block 1 h.lt (fun e => by injection e with e; exact hg e))).trans (h j hj)

set_option maxRecDepth 100000 in
set_option maxHeartbeats 4000000 in
theorem grow_leaf (w : World) (hT : Tab w) (gl n a : Nat) (s : List (BitVec 8)) (hs : s.length = 32) (pre mid post : List Value) (hB : Blk w gl 81 (pre ++ (mid ++ post))) (hpre : pre.length = a * 37) (hmid : mid.length = 37) (han : a < n) (hn : n ≤ 32) (hg1 : 1 < gl) :
    Calls Tryd.prog 28 #[arrV b8 s, .int .i64 (nodeX 0 a : Int), .slice (some ⟨gl, 0, none⟩) n n] w fun e w' => e = .returned (.tuple #[]) ∧ ∃ gm, Blk w' gl 81 (pre ++ (leafC s gm ++ post)) ∧ MapO w' gm [] ∧ w.heap.size ≤ gm ∧ w.grownBy w' (some gl) := by
  have hk := kids 0 (by decide) a (by omega) (by omega)
  simp only [if_true, Nat.pow_zero, Nat.mul_one] at hk
  have hx0 : nodeX 0 a = 2 * a := by unfold nodeX; omega
  rw [hx0] at hk ⊢
  have HS := Lib.hid hs
  have HA0 := Lib.hid (Arr.new b8 w 23 s)
  have HB0 := Lib.hid (hB.alloc (.cells (s.map b8).toArray 23))
  have HT0 := Lib.hid (hT.below ((Below.refl _ w).alloc (Nat.le_refl _) (.cells (s.map b8).toArray 23)))
  have HG0 := Lib.hid ((Below.refl w.heap.size w).alloc (Nat.le_refl _) (.cells (s.map b8).toArray 23))
  have hz0 : (w.alloc (.cells (s.map b8).toArray 23)).heap.size = w.heap.size + 1 := by simp
  have hgl := hB.lt
  rw [arrV_mk]
  clear hs hB hT
  go_enter Tryd.func28, Tryd.ntmps28
  go_upto_region 1 with fail
  generalize w.alloc (.cells (s.map b8).toArray 23) = w1 at HA0 HB0 HT0 HG0 hz0 ⊢
  have HC := Lib.hid (children_any ((2 * a : Nat) : Int) (by omega) w1 HT0.out)
  go_wp2_with fail
  refine HC.out.mono ?_
  rintro e w2 ⟨rfl, rfl⟩
  rw [hk]
  have hmm := @run_makeMap Tryd.prog
  have hq1 : (2 * (a : Int)).tdiv 2 = (a : Int) := by rw [Int.mul_comm, Int.mul_tdiv_cancel _ (by decide)]
  have hq2 : (2 * (a : Int)) / 2 = (a : Int) := by omega
  have h2 : (0 : Int) ≤ (a : Int) := by omega
  have h3 : (a : Int) < (n : Int) := by omega
  have HM2 := Lib.hid (show Blk (w1.alloc (.map #[] 0)) gl 81 (pre ++ (mid ++ post)) from HB0.out.alloc _)
  have HN2 := Lib.hid (show MapO (w1.alloc (.map #[] 0)) (w.heap.size + 1) [] by rw [← hz0]; exact MapO.new _)
  go_upto_region 3 with fail
  go_wp2_with (first
    | (refine wpList_load_arr rfl 23 (.tmp 3) rfl w.heap.size rfl _ s HA0.out _ Tryd.underlying23 rfl (by rw [size32, HS.out]) ?_)
    | (refine wpList_bparts rfl 81 [(1, .tmp 18), (3, .tmp 19)] rfl _ [(1, .agg (s.map b8).toArray), (3, .map (some (w.heap.size + 1)))] rfl (built_line s HS.out (some (w.heap.size + 1))) ?_)
    | (refine wpList_store_piece rfl 81 (.tmp 21) (.tmp 20) rfl gl (a * 37) rfl (leafC s (w.heap.size + 1)) rfl 81 _ pre mid post HM2.out rfl hpre (by unfold leafC; rw [hmid, lineC_len _ _ _ _ _ _ HS.out]) (by unfold leafC; rw [sizeLine, lineC_len _ _ _ _ _ _ HS.out]) (lineC_one rfl) ?_; intro w3 hx3 hg3))
  refine bodyPost_ret (results_none rfl _ _ _) rfl ?_
  have hg1 : w.grownBy w1 (some gl) := ⟨HG0.out.os, HG0.out.tape, HG0.out.output, HG0.out.size, fun k hk _ => HG0.out.block k hk⟩
  have hg2 := World.grownBy_alloc w1 (.map #[] 0) none
  refine ⟨rfl, w.heap.size + 1, hx3, HN2.out.kept hg3 (fun e => by injection e with e; omega), by omega, ⟨hg3.os.trans (hg2.os.trans hg1.os), hg3.tape.trans (hg2.tape.trans hg1.tape), hg3.output.trans (hg2.output.trans hg1.output), Nat.le_trans hg1.size (Nat.le_trans hg2.size hg3.size), fun k hk hne => ?_⟩⟩
  exact ((hg3.block k (by simp; omega) hne).trans (hg2.block k (by omega) (by simp))).trans (hg1.block k hk hne)

set_option maxRecDepth 100000 in
set_option maxHeartbeats 4000000 in
theorem grow_any : ∀ (k : Nat), k ≤ 5 → ∀ (w : World) (hT : Tab w) (gl n q : Nat) (s : List (BitVec 8)) (hs : s.length = 32) (pre mid post : List Value) (hB : Blk w gl 81 (pre ++ (mid ++ post))) (hpre : pre.length = q * 2 ^ k * 37) (hmid : mid.length = 37 * 2 ^ k)
    (hqn : (q + 1) * 2 ^ k ≤ n) (hn : n ≤ 32) (hg1 : 1 < gl),
    Calls Tryd.prog 28 #[arrV b8 s, .int .i64 (nodeX k (q * 2 ^ k) : Int), .slice (some ⟨gl, 0, none⟩) n n] w fun e w' => e = .returned (.tuple #[]) ∧ ∃ gms : List Nat, gms.length = 2 ^ k ∧ Blk w' gl 81 (pre ++ (leavesC (secs k s) gms ++ post)) ∧
      (∀ g ∈ gms, MapO w' g [] ∧ w.heap.size ≤ g) ∧ gms.Nodup ∧ w.grownBy w' (some gl)
  | 0, _, w, hT, gl, n, q, s, hs, pre, mid, post, hB, hpre, hmid, hqn, hn, hg1 => by
    simp only [Nat.pow_zero, Nat.mul_one] at hpre hmid hqn ⊢
    refine (grow_leaf w hT gl n q s hs pre mid post hB hpre hmid (by omega) hn hg1).mono ?_
    rintro e w' ⟨rfl, gm, hb, hm, hge, hg⟩
    refine ⟨rfl, [gm], rfl, ?_, fun g hg' => by rw [List.mem_singleton] at hg'; subst hg'; exact ⟨hm, hge⟩, by simp, hg⟩
    have e : leavesC (secs 0 s) [gm] = leafC s gm := by simp [leavesC, secs]
    rw [e]; exact hb
  | k + 1, hk, w, hT, gl, n, q, s, hs, pre, mid, post, hB, hpre, hmid, hqn, hn, hg1 => by
    have e2 : 2 ^ (k + 1) = 2 * 2 ^ k := by rw [Nat.pow_succ, Nat.mul_comm]
    have hkid := kids (k + 1) hk q (by have : 1 ≤ 2 ^ (k + 1) := Nat.one_le_two_pow; have : q + 1 ≤ (q + 1) * 2 ^ (k + 1) := Nat.le_mul_of_pos_right _ (by omega); omega) (by omega)
    rw [if_neg (by omega)] at hkid
    simp only [Nat.add_sub_cancel] at hkid
    have ql : q * 2 ^ (k + 1) = 2 * q * 2 ^ k := by rw [e2, ← Nat.mul_assoc, Nat.mul_comm q 2]
    have qr : q * 2 ^ (k + 1) + 2 ^ k = (2 * q + 1) * 2 ^ k := by rw [ql, Nat.add_mul, Nat.one_mul]
    have hp0 : 1 ≤ 2 ^ k := Nat.one_le_two_pow
    obtain ⟨P, hP⟩ : ∃ P, P = 2 ^ k := ⟨_, rfl⟩
    have hq1 : (q + 1) * 2 ^ (k + 1) = q * 2 ^ (k + 1) + 2 ^ (k + 1) := by rw [Nat.add_mul, Nat.one_mul]
    obtain ⟨X, hX⟩ : ∃ X, X = nodeX (k + 1) (q * 2 ^ (k + 1)) := ⟨_, rfl⟩
    obtain ⟨XL, hXL⟩ : ∃ XL, XL = nodeX k (q * 2 ^ (k + 1)) := ⟨_, rfl⟩
    obtain ⟨XR, hXR⟩ : ∃ XR, XR = nodeX k (q * 2 ^ (k + 1) + 2 ^ k) := ⟨_, rfl⟩
    have hXs : X < 1000 := by rw [hX]; unfold nodeX; omega
    rw [← hX, ← hXL, ← hXR] at hkid
    obtain ⟨L, hL⟩ : ∃ L, L = derV s lLeft := ⟨_, rfl⟩
    obtain ⟨R, hR⟩ : ∃ R, R = derV s lRight := ⟨_, rfl⟩
    have HLl := Lib.hid (show L.length = 32 by rw [hL]; exact derV_len _ _)
    have HRl := Lib.hid (show R.length = 32 by rw [hR]; exact derV_len _ _)
    have hbl : (2 * q + 1) * 2 ^ k ≤ n := by
      have h9 : (2 * q + 1) * 2 ^ k = 2 * q * 2 ^ k + 2 ^ k := by rw [Nat.add_mul, Nat.one_mul]
      omega
    have hbr : (2 * q + 1 + 1) * 2 ^ k ≤ n := by
      have h9 : (2 * q + 1 + 1) * 2 ^ k = (2 * q + 1) * 2 ^ k + 2 ^ k := by rw [Nat.add_mul, Nat.one_mul]
      omega
    have ihl := fun (w' : World) (hT' : Tab w') (pre mid post : List Value) (hB' : Blk w' gl 81 (pre ++ (mid ++ post))) (h1 : pre.length = 2 * q * 2 ^ k * 37) (h2 : mid.length = 37 * 2 ^ k) => grow_any k (by omega) w' hT' gl n (2 * q) L HLl.out pre mid post hB' h1 h2 hbl hn hg1
    have ihr := fun (w' : World) (hT' : Tab w') (pre mid post : List Value) (hB' : Blk w' gl 81 (pre ++ (mid ++ post))) (h1 : pre.length = (2 * q + 1) * 2 ^ k * 37) (h2 : mid.length = 37 * 2 ^ k) => grow_any k (by omega) w' hT' gl n (2 * q + 1) R HRl.out pre mid post hB' h1 h2 hbr hn hg1
    rw [← ql, ← hXL, arrV_mk] at ihl
    rw [← qr, ← hXR, arrV_mk] at ihr
    have HIl := Lib.hid ihl
    have HIr := Lib.hid ihr
    have HLe := Lib.hid hL
    have HRe := Lib.hid hR
    have HS := Lib.hid hs
    have HPre := Lib.hid hpre
    have HMid := Lib.hid hmid
    have HE2 := Lib.hid e2
    have HQr := Lib.hid qr
    have HA0 := Lib.hid (Arr.new b8 w 23 s)
    have HB0 := Lib.hid (hB.alloc (.cells (s.map b8).toArray 23))
    have HT0 := Lib.hid (hT.below ((Below.refl _ w).alloc (Nat.le_refl _) (.cells (s.map b8).toArray 23)))
    have HG0 := Lib.hid ((Below.refl w.heap.size w).alloc (Nat.le_refl _) (.cells (s.map b8).toArray 23))
    have hz0 : (w.alloc (.cells (s.map b8).toArray 23)).heap.size = w.heap.size + 1 := by simp
    have hgl := hB.lt
    rw [arrV_mk, ← hX]
    clear hs hB hT ihl ihr hL hR hX hXL hXR hP hpre hmid e2 ql qr hq1 hqn hbl hbr
    go_enter Tryd.func28, Tryd.ntmps28
    go_upto_region 1 with fail
    generalize w.alloc (.cells (s.map b8).toArray 23) = w1 at HA0 HB0 HT0 HG0 hz0 ⊢
    have HC := Lib.hid (children_any (X : Int) (by omega) w1 HT0.out)
    go_wp2_with fail
    refine HC.out.mono ?_
    rintro e w2 ⟨rfl, rfl⟩
    rw [hkid.1, hkid.2]
    have hl0 : ¬ ((XL : Int) < 0) := by omega
    clear hkid
    have hdl := derive_any w1 s HS.out ⟨#[108, 101, 102, 116]⟩ lLeft strLeft (by decide)
    rw [arrV_mk, arrV_mk, ← HLe.out] at hdl
    have HDl := Lib.hid hdl
    clear hdl
    go_wp2_with (refine wpList_load_arr rfl 23 (.tmp 3) rfl w.heap.size rfl _ s HA0.out _ Tryd.underlying23 rfl (by rw [size32, HS.out]) ?_)
    refine HDl.out.mono ?_
    rintro e w2 ⟨rfl, hb2⟩
    have HB2 := Lib.hid (HB0.out.below hb2 (by omega))
    have HT2 := Lib.hid (HT0.out.below hb2)
    have HA2 := Lib.hid (HA0.out.below hb2 (by omega))
    have hz2 := hb2.size
    have HG2 := Lib.hid (show Below w.heap.size w w2 from HG0.out.trans (hb2.mono (by omega)))
    obtain ⟨m1, m2, hm12, hm1, hm2⟩ : ∃ m1 m2 : List Value, mid = m1 ++ m2 ∧ m1.length = 37 * 2 ^ k ∧ m2.length = 37 * 2 ^ k := by
      have h1 := HMid.out
      have h2 := HE2.out
      exact ⟨mid.take (37 * 2 ^ k), mid.drop (37 * 2 ^ k), (List.take_append_drop _ _).symm, by rw [List.length_take]; omega, by rw [List.length_drop]; omega⟩
    subst hm12
    have HM1 := Lib.hid hm1
    have HM2 := Lib.hid hm2
    have hgr := HIl.out w2 HT2.out pre m1 (m2 ++ post) (HB2.out.cast (by simp)) HPre.out hm1
    have HGr := Lib.hid hgr
    clear hb2 hm1 hm2 hgr
    go_wp2_with fail
    refine HGr.out.mono ?_
    rintro e w3 ⟨rfl, g1, hg1l, hB3, hM3, hN3, hg3⟩
    have HB3 := Lib.hid hB3
    have HM3 := Lib.hid hM3
    have HN3 := Lib.hid hN3
    have HL3 := Lib.hid hg1l
    have HT3 := Lib.hid (HT2.out.grown hg3 (by omega))
    have HA3 := Lib.hid (HA2.out.grown hg3 (fun e => by injection e with e; omega))
    have hz3 := hg3.size
    have HG3 := Lib.hid (show w.grownBy w3 (some gl) from grownBy_trans ⟨HG2.out.os, HG2.out.tape, HG2.out.output, HG2.out.size, fun k hk _ => HG2.out.block k hk⟩ hg3 (fun _ e => .inl e))
    have hdr := derive_any w3 s HS.out ⟨#[114, 105, 103, 104, 116]⟩ lRight strRight (by decide)
    rw [arrV_mk, arrV_mk, ← HRe.out] at hdr
    have HDr := Lib.hid hdr
    clear hdr hB3 hM3 hN3 hg3 hg1l
    go_wp2_with (refine wpList_load_arr rfl 23 (.tmp 3) rfl w.heap.size rfl _ s HA3.out _ Tryd.underlying23 rfl (by rw [size32, HS.out]) ?_)
    refine HDr.out.mono ?_
    rintro e w4 ⟨rfl, hb4⟩
    have HB4 := Lib.hid (HB3.out.below hb4 (by omega))
    have HT4 := Lib.hid (HT3.out.below hb4)
    have hz4 := hb4.size
    have HM4 := Lib.hid (show ∀ g ∈ g1, MapO w4 g [] ∧ w2.heap.size ≤ g from fun g hg => ⟨(HM3.out g hg).1.below hb4 (HM3.out g hg).1.lt, (HM3.out g hg).2⟩)
    have HG4 := Lib.hid (below_grown HG3.out hb4)
    have HLt := Lib.hid (show ∀ g ∈ g1, g < w3.heap.size from fun g hg => (HM3.out g hg).1.lt)
    have hs1 : (secs k L).length = g1.length := by rw [secs_len, HL3.out]
    have hgr := HIr.out w4 HT4.out (pre ++ leavesC (secs k L) g1) m2 post (HB4.out.cast (by simp)) (by
      rw [List.length_append, HPre.out, leavesC_len _ _ (secs_32 k L HLl.out) hs1, secs_len, Nat.add_mul, Nat.mul_comm 37]) HM2.out
    have HGr := Lib.hid hgr
    have HS1 := Lib.hid hs1
    clear hb4 hgr hs1
    go_wp2_with fail
    refine HGr.out.mono ?_
    rintro e w5 ⟨rfl, g2, hg2l, hB5, hM5, hN5, hg5⟩
    have HB5 := Lib.hid hB5
    have HM5 := Lib.hid hM5
    have HN5 := Lib.hid hN5
    have HG5 := Lib.hid hg5
    have HL5 := Lib.hid hg2l
    clear hB5 hM5 hN5 hg5 hg2l
    go_wp2_with fail
    refine bodyPost_end (results_none rfl _ _ _) rfl ?_
    refine ⟨rfl, g1 ++ g2, by rw [List.length_append, HL3.out, HL5.out, HE2.out]; omega, ?_, ?_, ?_, grownBy_trans HG4.out HG5.out (fun _ e => .inl e)⟩
    · rw [show secs (k + 1) s = secs k L ++ secs k R from by rw [HLe.out, HRe.out]; rfl, leavesC_app _ _ _ _ HS1.out]
      exact HB5.out.cast (by simp)
    · intro g hg
      rcases List.mem_append.1 hg with h | h
      · exact ⟨(HM4.out g h).1.kept HG5.out (fun e => by injection e with e; have := (HM4.out g h).2; omega), by have := (HM4.out g h).2; omega⟩
      · exact ⟨(HM5.out g h).1, by have := (HM5.out g h).2; omega⟩
    · refine List.nodup_append.2 ⟨HN3.out, HN5.out, fun a ha b hb e => ?_⟩
      subst e
      have h1 := HLt.out a ha
      have h2 := (HM5.out a hb).2
      omega
end Go.Proofs.YtmncihhofppkdaaDoor
