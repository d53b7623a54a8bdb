/- PLAIN LEMMAS: a slice literal of one struct, and an append of structs, as one step of a region that draws its order. No program, no conditions. -/
import Derived.Test.YtloglpamnalmeaaManyStep
import Derived.Test.YtloglpamnalmeaaRinTree
import Derived.Test.YtloglpamnalmeaaTakeComm
import Derived.Test.YtloglpamnalmeaaRinPr
import Derived.Test.YtloglpamnalmeaaRTakeW
import Derived.Test.YtloglpamnalmeaaRefComm
namespace Go.Proofs.Ytloglpamnalmeaa
open Go.RowKit
set_option linter.unusedVariables false
set_option linter.unusedSimpArgs false

theorem step_box_slice {P : Program} {ops : Array Oper} {o : Oper} {a : Act} {w : World} {Kt : Act → World → Prop} {Q : Exit → Act → World → Prop} {F : Prop} (hg : o.guard = none) (t e : TypeId) (x : Operand) (ho : o.op = .buildSlice t 1 #[(0, x)])
    (ie : TypeInfo) (z : Value) (K : Nat) (cells : Array Value) (hx : a.eval x = .agg cells) (hK : cells.size = K) (hK0 : 0 < K) (hKs : K ≤ 1000)
    (hu : P.underlying t = some (.slice e)) (hie : P.info? e = some ie) (hz : ie.zero = some z) (hsz : ie.size = K) (hzs : z.cells.size = K)
    (h : Kt (a.put o.dst (.slice (some ⟨w.heap.size, 0, none⟩) 1 1)) (w.alloc (.cells cells e))) : if Region.wanted o (yielded ops a.tmps) = true then Oper.wp P o a w Kt Q else F := by
  have hw : Region.wanted o (yielded ops a.tmps) = true := by simp [Region.wanted, hg]
  rw [if_pos hw]
  refine wp_buildSlice t e 1 #[(0, x)] ho cells ie z hu hie hz (by rw [hsz]; omega) (by rw [hsz]; omega) ?_ h
  rw [hsz]
  rw [show (#[(0, x)].map fun (i, x) => (i, a.eval x)).toList = [(0, .agg cells)] by simp [hx]]
  exact fill_one hK0 (.agg cells) hK _ (by simp)
theorem step_append_row {P : Program} {w : World} {ops : Array Oper} {o : Oper} {a : Act} {Kt : Act → World → Prop} {Q : Exit → Act → World → Prop} {F : Prop} (hgd : o.guard = none) (s x : Operand) (t : TypeId)
    (ho : o.op = .call { callee := .builtin .append, args := #[s, x], argTypes := #[t, t] })
    (K : Nat) (hK : 0 < K) (base : Nat) (e : TypeId) (i : TypeInfo) (z : Value) (bytes : Nat) (ht : P.underlying t = some (.slice e)) (hi : P.info? e = some i) (hz : i.zero = some z)
    (hsize : i.size = K) (hby : i.bytes = bytes) (hzs : z.cells.size = K)
    (v : Value) (n : Nat) (us : List Value) (hs : a.eval s = v) (hown : w.ownsRow base e K v n us)
    (B : Nat) (A : Option Addr) (m c : Nat) (news : List Value) (hx : a.eval x = .slice A m c) (hl : news.length = m * K) (hm : 0 < m) (hr : RdV w B A news) (h1 : ∀ u ∈ news, u.oneCell' = true)
    (h63 : n + m ≤ maxLen) (hbytes : (n + m) * bytes ≤ 140737488355328) (hbase : base ≤ w.heap.size)
    (h : ∀ v' w', w'.ownsRow base e K v' (n + m) (us ++ news) → Grew w w' v v' → (∀ C w0, C ≤ base → Below C w0 w → Below C w0 w') → Kt (a.put o.dst v') w') :
    if Region.wanted o (yielded ops a.tmps) = true then Oper.wp P o a w Kt Q else F := by
  have hw : Region.wanted o (yielded ops a.tmps) = true := by simp [Region.wanted, hgd]
  rw [if_pos hw]
  obtain ⟨v', w', hrun, h2, h3⟩ := run_append_row (P := P) K hK base t o.type e i z bytes ht hi hz hsize hby hzs v n us hown B A m c news hl hm hr h1 h63 hbytes hbase
  unfold Oper.wp execOp
  simp only [ho, resolve, invoke, builtin, Sem.run_bind, Sem.run_pure, Result.andThen_ok, List.map_toArray, List.map_cons, List.map_nil, hs, hx, hrun]
  exact h v' w' h2 h3 (fun C w0 hC hb => rowS_bel h3 hown hbase hC hb)
end Go.Proofs.Ytloglpamnalmeaa

/- CONTRACT: the reader of the document's chapter 9: path. -/
namespace Go.Proofs.Ytloglpamnalmeaa
open Go.RowKit
set_option linter.unusedVariables false
set_option linter.unusedSimpArgs false

set_option maxRecDepth 100000 in
theorem built_rpath0 (u : Bool) (nm : Int) (k s p : List (BitVec 8)) (m : Nat) (hk : k.length = 32) (hs : s.length = 32) (hp : p.length = 32) (A : Option Addr) (c : Nat) :
    Try.prog.built 80 [(0, .agg ((Value.bool u :: Value.int .i64 nm :: k.map b8) ++ (s.map b8 ++ (p.map b8 ++ [Value.slice A m c]))).toArray)] = some (((Value.bool u :: Value.int .i64 nm :: k.map b8) ++ (s.map b8 ++ (p.map b8 ++ [Value.slice A m c]))) ++ [Value.slice none 0 0]).toArray := by
  obtain ⟨k0, k1, k2, k3, k4, k5, k6, k7, k8, k9, k10, k11, k12, k13, k14, k15, k16, k17, k18, k19, k20, k21, k22, k23, k24, k25, k26, k27, k28, k29, k30, k31, rfl⟩ := list32 hk
  obtain ⟨s0, s1, s2, s3, s4, s5, s6, s7, s8, s9, s10, s11, s12, s13, s14, s15, s16, s17, s18, s19, s20, s21, s22, s23, s24, s25, s26, s27, s28, s29, s30, s31, rfl⟩ := list32 hs
  obtain ⟨p0, p1, p2, p3, p4, p5, p6, p7, p8, p9, p10, p11, p12, p13, p14, p15, p16, p17, p18, p19, p20, p21, p22, p23, p24, p25, p26, p27, p28, p29, p30, p31, rfl⟩ := list32 hp
  kernel_rfl
theorem built_rpath (x : NodeD) (hx : x.Ok) (A : Option Addr) (c : Nat) :
    Try.prog.built 80 [(0, .agg (nodeC x A c).toArray)] = some (nodeC x A c ++ [Value.slice none 0 0]).toArray := built_rpath0 x.used x.name x.key x.sign x.par x.um.length hx.key hx.sign hx.par A c
set_option maxRecDepth 100000 in
theorem built_rstep (G : List (BitVec 8)) (hG : G.length = 32) :
    Try.prog.built 144 [(0, .agg (G.map b8).toArray)] = some (G.map b8 ++ [Value.slice none 0 0]).toArray := by
  obtain ⟨x0, x1, x2, x3, x4, x5, x6, x7, x8, x9, x10, x11, x12, x13, x14, x15, x16, x17, x18, x19, x20, x21, x22, x23, x24, x25, x26, x27, x28, x29, x30, x31, rfl⟩ := list32 hG
  kernel_rfl
def zPathL : List Value := nodeC zNode none 0 ++ [.slice none 0 0]
theorem zPathL_len : zPathL.length = 100 := by rw [zPathL, List.length_append, nodeC_len zNode_ok]; rfl
theorem infoPath100 : (Try.prog.info? 80).map (·.size) = some 100 := by kernel_rfl
theorem pathL_one (x : NodeD) (A : Option Addr) (c : Nat) (v : Value) (hv : v.oneCell' = true) : ∀ u ∈ nodeC x A c ++ [v], u.oneCell' = true := by
  intro u hu
  rcases List.mem_append.1 hu with h | h
  · exact nodeC_one _ _ _ u h
  · rw [List.mem_singleton.1 h]; exact hv
theorem stepL_one (G : List (BitVec 8)) (v : Value) (hv : v.oneCell' = true) : ∀ u ∈ G.map b8 ++ [v], u.oneCell' = true := by
  intro u hu
  rcases List.mem_append.1 hu with h | h
  · exact b8s_one _ u h
  · rw [List.mem_singleton.1 h]; exact hv
theorem set_last (xs : List Value) (u v : Value) (k : Nat) (hk : xs.length = k) : (xs ++ [u]).set k v = xs ++ [v] := by
  subst hk; simp
theorem get_last (xs : List Value) (u : Value) (k : Nat) (hk : xs.length = k) : (xs ++ [u])[k]? = some u := by
  subst hk; simp
theorem OwnSEl.far0 {w w' : World} {B p : Nat} {T : TypeId} {cs : List Value} {t : StepT} (h : OwnSEl w B t) (hg : w.grownBy w' (some p)) (hb : Blk w p T cs) (h1 : T ≠ 24 := by decide) (h2 : T ≠ 5 := by decide) : OwnSEl w' B t :=
  ⟨h.key, ⟨rowS_kept' h.rows.row hg (fun b e e2 => by cases e; exact rowS_blk h.rows.row hb h1 e2), fun r hr' => ⟨(h.rows.xs r hr').1.kept hg (.inr (hb.not_row h2 (h.rows.xs r hr').1).symm), (h.rows.xs r hr').2⟩⟩, h.len⟩
set_option maxRecDepth 100000 in
set_option maxHeartbeats 8000000 in
theorem rpath_any {w : World} {B g K0 : Nat} {s : St} (hE : Rin w B g s K0) (hy : s.1.length ≤ 10000000) (hK0 : K0 ≤ 800000) :
    Calls Try.prog 95 #[.pointer (some ⟨g, 0, none⟩)] w fun e w' => ∃ p : PathT, e = .returned (.agg p.cells.toArray) ∧ p.leaf = (pNode s).1 ∧ p.steps.map StepT.v = (pList pStep (pNode s).2).1 ∧ Own cI w' w.heap.size 3 (.slice p.A p.leaf.um.length p.c) p.leaf.um ∧ OwnS w' w.heap.size (.slice p.As p.steps.length p.cs) p.steps ∧ Rin w' B g (pList pStep (pNode s).2).2 (K0 + 20) ∧ w.grownBy w' (some g) := by
  obtain ⟨i0, hi0, hz0, hz1, hz2⟩ := info_parts infoSl
  obtain ⟨j0, hj0, hy0, hy1, hy2⟩ := info_parts infoStepZ
  have hok := pNode_ok s
  obtain ⟨x, hx⟩ : ∃ x, x = (pNode s).1 := ⟨_, rfl⟩
  obtain ⟨s1, hs1⟩ : ∃ t, t = (pNode s).2 := ⟨_, rfl⟩
  obtain ⟨N, hN⟩ : ∃ N, N = (pNum 1 s1).1 := ⟨_, rfl⟩
  obtain ⟨s0, hs0⟩ : ∃ s0, s0 = (pNum 1 s1).2 := ⟨_, rfl⟩
  have e0 : pList pStep s1 = pMany pStep N s0 := by rw [hN, hs0]; rfl
  obtain ⟨L, hL⟩ : ∃ L, L = (pMany pStep N s0).1 := ⟨_, rfl⟩
  obtain ⟨sL, hsL⟩ : ∃ sL, sL = (pMany pStep N s0).2 := ⟨_, rfl⟩
  have l1 : s1.1.length ≤ 10000000 := by rw [hs1]; exact Nat.le_trans (pNode_le s) hy
  have l0 : s0.1.length ≤ 10000000 := by rw [hs0]; exact Nat.le_trans (pNum_le 1 s1) l1
  have hNb : N < 256 := by rw [hN]; exact pNum1_lt s1
  rw [← hx, ← hs1, e0, ← hL, ← hsL]
  rw [← hx] at hok
  have C1 := Lib.hid (fun (W : World) (h : Rin W B g s K0) => (show Calls Try.prog 113 #[.pointer (some ⟨g, 0, none⟩)] W fun e w' => ∃ A c, e = .returned (.agg (nodeC x A c).toArray) ∧ Own cI w' W.heap.size 3 (.slice A x.um.length c) x.um ∧ Rin w' B g s1 (K0 + 8) ∧ W.grownBy w' (some g) by rw [hx, hs1]; exact rnode_any h hy (by omega)))
  have C2 := Lib.hid (fun (W : World) (h : Rin W B g s1 (K0 + 8)) => (show Calls Try.prog 94 #[.pointer (some ⟨g, 0, none⟩), .int .i64 1] W fun e w' => e = .returned (.int .i64 (N : Int)) ∧ Rin w' B g s0 (K0 + 9) ∧ W.grownBy w' (some g) by rw [hN, hs0]; exact rnum_any h 1 1 rfl (by omega) (by omega) (by omega)))
  have HLL := Lib.hid (show pMany pStep N s0 = (L, sL) by rw [hL, hsL])
  have hgl := hE.lt
  have HE0 := Lib.hid (hE.below ((Below.refl w.heap.size w).alloc (Nat.le_refl _) (.cells zPathL.toArray 80)) (Nat.le_refl _))
  have HP0 := Lib.hid (Blk.new w 80 zPathL)
  have HG0 := Lib.hid (World.grownBy_alloc w (.cells zPathL.toArray 80) (some g))
  have HOk := Lib.hid hok
  clear hE hx hs1 hN hs0 e0 hL hsL hy hok
  go_enter Try.func95, Try.ntmps95
  go_wp2_with fail
  generalize hW1 : World.alloc w _ = w1
  have HE1 := Lib.hid (show Rin w1 B g s K0 by rw [← hW1]; exact HE0.out)
  have HP1 := Lib.hid (show Blk w1 w.heap.size 80 zPathL by rw [← hW1]; exact HP0.out)
  have HG1 := Lib.hid (show w.grownBy w1 (some g) by rw [← hW1]; exact HG0.out)
  have hq1 : w.heap.size + 1 ≤ w1.heap.size := by rw [← hW1]; simp
  clear hW1 HE0 HP0 HG0
  refine (C1.out _ HE1.out).mono ?_
  rintro e w2 ⟨A2, c2, rfl, ho2, he2, hg2⟩
  have HE2 := Lib.hid he2
  have HU2 := Lib.hid ho2
  have HP2 := Lib.hid (HP1.out.grown hg2 (by intro e; have := Option.some.inj e; omega))
  have HG2 := Lib.hid (grownBy_trans HG1.out hg2 (fun _ e => .inl e))
  have hq2 := hg2.size
  have HBu := Lib.hid (built_rpath x HOk.out A2 c2)
  have HXl := Lib.hid (show ∀ v : Value, (nodeC x A2 c2 ++ [v]).length = 100 from fun v => by rw [List.length_append, nodeC_len HOk.out]; rfl)
  have HNl := Lib.hid (nodeC_len HOk.out A2 c2)
  clear he2 ho2 hg2 HE1 HP1 HG1 C1
  go_wp2_with (first
    | (refine wpList_build_at rfl 80 [(0, .tmp 10)] rfl _ _ rfl HBu.out ?_)
    | (refine wpList_store_blk rfl 80 _ _ rfl w2.heap.size rfl (nodeC x A2 c2 ++ [.slice none 0 0]) rfl _ _ (Blk.new w2 80 zPathL) (by rw [zPathL_len, HXl.out]) (by rw [HXl.out]; exact infoPath100) (pathL_one _ _ _ _ rfl) ?_; intro w3 hp3 hg3; have HX3 := Lib.hid hp3; have HG3' := Lib.hid hg3; clear hp3 hg3))
  have hb3 : Below w2.heap.size w2 w3 := below_box HG3'.out
  obtain ⟨gp, hgp⟩ : ∃ gp, gp = w2.heap.size := ⟨_, rfl⟩
  have hggp : g < gp := by have := HE2.out.lt; omega
  have hPgp : w.heap.size < gp := by omega
  have hUgp : w1.heap.size ≤ gp := by omega
  have HE3 := Lib.hid (HE2.out.below hb3 (Nat.le_refl _))
  have HP3 := Lib.hid (HP2.out.below hb3 (by omega))
  have HG3 := Lib.hid (grown_below HG2.out (hb3.mono (by omega)))
  have HU3 := Lib.hid (HU2.out.below hb3 (Nat.le_refl _))
  rw [← hgp] at HX3 ⊢
  have hq3 : gp + 1 ≤ w3.heap.size := by have := HX3.out.lt; omega
  clear hb3 HG3' HE2 HP2 HG2 HU2 hgp HBu hq2
  refine (C2.out _ HE3.out).mono ?_
  rintro e w4 ⟨rfl, he4, hg4⟩
  have HE4 := Lib.hid he4
  have HX4 := Lib.hid (HX3.out.grown hg4 (by intro e; have := Option.some.inj e; omega))
  have HP4 := Lib.hid (HP3.out.grown hg4 (by intro e; have := Option.some.inj e; omega))
  have HG4 := Lib.hid (grownBy_trans HG3.out hg4 (fun _ e => .inl e))
  have HU4 := Lib.hid (HU3.out.kept hg4 (.inr (fun e => by have := (HU3.out.lt _ e).1; omega)))
  have hq4 := Nat.le_trans hq3 hg4.size
  clear he4 hg4 HE3 HX3 HP3 HG3 HU3 C2
  go_wp2_with fail
  go_loopw [5] (fun iv wr => ∃ (k : Nat) (ts : List StepT) (t : St) (As : Option Addr) (cs : Nat), k ≤ N ∧ iv = .int .i64 (k : Int) ∧ ts.length = k ∧ t.1.length ≤ 10000000 ∧ (L, sL) = (ts.map StepT.v ++ (pMany pStep (N - k) t).1, (pMany pStep (N - k) t).2) ∧ Blk wr gp 80 (nodeC x A2 c2 ++ [.slice As k cs]) ∧ OwnS wr w.heap.size (.slice As k cs) ts ∧ Own cI wr w1.heap.size 3 (.slice A2 x.um.length c2) x.um ∧ Rin wr B g t (K0 + 20) ∧ w.grownBy wr (some g) ∧ Blk wr w.heap.size 80 zPathL ∧ gp + 1 ≤ wr.heap.size) (fun iv _ => N - (intOf iv).toNat)
  case atStart => exact ⟨0, [], s0, none, 0, by omega, rfl, rfl, l0, by rw [Nat.sub_zero, List.map_nil, List.nil_append, HLL.out], HX4.out, OwnS.nil_ _ _, HU4.out, HE4.out.more (by omega), HG4.out, HP4.out, hq4⟩
  case round =>
    obtain ⟨k, ts, t, As, cs, hk, rfl, hal, htl, hLt, hxp, hos, hu, he, hg, hp, hqr⟩ := hrel
    clear HX4 HU4 HE4 HG4 HP4 hq4 HLL
    obtain ⟨wo, rfl⟩ : ∃ wo, wo = wr := ⟨_, rfl⟩
    obtain ⟨q, cq, fq, hqK, hqb⟩ := he.q
    have HAl := Lib.hid hal
    by_cases hlt2 : k < N
    · have hlt' : (k : Int) < (N : Int) := by omega
      by_cases hbd : t.2 = true
      · have hq0 : q ≠ 0 := fun h => by rw [hqb.2 h] at hbd; cases hbd
        have hqi : ((q : Int) == 0) = false := by simp; omega
        have hqp : (q = 0) = False := by simp [hq0]
        have h := hLt
        rw [pMany_bad pStep _ hbd, List.append_nil] at h
        injection h with h1 h2
        have HLf := Lib.hid h1.symm
        have HXf := Lib.hid hxp
        have HSf := Lib.hid hos
        have HUf := Lib.hid hu
        have HEf := Lib.hid (show Rin wo B g sL (K0 + 20) by rw [h2]; exact he)
        have HGf := Lib.hid hg
        have HPf := Lib.hid hp
        clear hLt hxp hos hu he hg hp hbd hqb hq0 hal h1 h2
        have HXm := Lib.hid HXf.out
        go_wp2_with (first
          | (refine wpList_load_mid rfl 80 (.tmp 3) rfl gp 0 rfl (nodeC x A2 c2 ++ [.slice As k cs]) _ (Blk.whole HXm.out) Try.underlying80 rfl (by rw [HXl.out]; exact infoPath100) ?_)
          | (refine wpList_store_blk rfl 80 _ _ rfl w.heap.size rfl (nodeC x A2 c2 ++ [.slice As k cs]) rfl _ _ HPf.out (by rw [zPathL_len, HXl.out]) (by rw [HXl.out]; exact infoPath100) (pathL_one _ _ _ _ rfl) ?_; intro wz hpz hgz; have HPz := Lib.hid hpz; have HGz := Lib.hid hgz; clear hpz hgz))
        refine bodyPost_ret (results_blk (g := w.heap.size) rfl _ _ _ _ _ rfl HPz.out Try.underlying80 rfl (by rw [HXl.out]; exact infoPath100)) rfl ?_
        refine ⟨⟨x, A2, c2, ts, As, cs⟩, by show _ = Ending.returned (.agg (nodeC x A2 c2 ++ [Value.slice As ts.length cs]).toArray); rw [HAl.out], rfl, HLf.out, ?_, ?_, HEf.out.grown HGz.out (by omega) hgl, grownBy_trans HGf.out HGz.out (fun _ e => .inr (by cases e; exact Nat.le_refl _))⟩
        · exact (HUf.out.kept HGz.out (.inr (fun e => by have := (HUf.out.lt _ e).1; omega))).less (by omega)
        · show OwnS wz w.heap.size (.slice As ts.length cs) ts
          rw [HAl.out]
          have hne : (Value.slice As k cs).ownBlock ≠ some w.heap.size := rowS_blk HSf.out.row HPf.out (by decide)
          exact ⟨rowS_kept' HSf.out.row HGz.out (fun b e e2 => by cases e; exact hne e2), fun t' ht' => (HSf.out.el t' ht').far0 HGz.out HPf.out⟩
      · have hbd' : t.2 = false := by simpa using hbd
        obtain rfl : q = 0 := hqb.1 hbd'
        have HBd := Lib.hid hbd'
        have HLt := Lib.hid hLt
        have HXo := Lib.hid hxp
        have HSo := Lib.hid hos
        have HUo := Lib.hid hu
        have HGo := Lib.hid hg
        have HPo := Lib.hid hp
        have HE0 := Lib.hid (he.none_ hbd')
        obtain ⟨G, hG⟩ : ∃ G, G = (pTk 32 t).1 := ⟨_, rfl⟩
        obtain ⟨t1, ht1⟩ : ∃ t1, t1 = (pTk 32 t).2 := ⟨_, rfl⟩
        obtain ⟨M, hM⟩ : ∃ M, M = (pNum 1 t1).1 := ⟨_, rfl⟩
        obtain ⟨t2, ht2⟩ : ∃ t2, t2 = (pNum 1 t1).2 := ⟨_, rfl⟩
        obtain ⟨L2, hL2⟩ : ∃ L2, L2 = (pMany pRow M t2).1 := ⟨_, rfl⟩
        obtain ⟨s2, hs2⟩ : ∃ s2, s2 = (pMany pRow M t2).2 := ⟨_, rfl⟩
        have hGl : G.length = 32 := by rw [hG]; exact pTk_len _ _
        have hMb : M < 256 := by rw [hM]; exact pNum1_lt t1
        have hll1 : t1.1.length ≤ 10000000 := by rw [ht1]; exact Nat.le_trans (pTk_le 32 t) htl
        have hll2 : t2.1.length ≤ 10000000 := by rw [ht2]; exact Nat.le_trans (pNum_le 1 t1) hll1
        have HSt := Lib.hid (show pStep t = (⟨G, L2⟩, s2) by rw [pStep, hG, ← ht1, hL2, hs2, hM, ht2]; rfl)
        have HL2 := Lib.hid (show pMany pRow M t2 = (L2, s2) by rw [hL2, hs2])
        have HS2l := Lib.hid (show s2.1.length ≤ 10000000 by rw [hs2]; exact Nat.le_trans (pMany_le pRow pRow_le M t2) hll2)
        have D1 := Lib.hid (show Calls Try.prog 114 #[.pointer (some ⟨g, 0, none⟩)] wo fun e w' => e = .returned (.agg (G.map b8).toArray) ∧ Rin w' B g t1 1 ∧ wo.grownBy w' (some g) by rw [hG, ht1]; exact rkey_any HE0.out (by omega) (by omega))
        have D2 := Lib.hid (fun (W : World) (h : Rin W B g t1 1) => (show Calls Try.prog 94 #[.pointer (some ⟨g, 0, none⟩), .int .i64 1] W fun e w' => e = .returned (.int .i64 (M : Int)) ∧ Rin w' B g t2 2 ∧ W.grownBy w' (some g) by rw [hM, ht2]; exact rnum_any h 1 1 rfl (by omega) (by omega) (by omega)))
        have HGl := Lib.hid hGl
        have HBs := Lib.hid (built_rstep G hGl)
        clear hLt hxp hos hu hg hp he hqb hbd hbd' hal hG ht1 hM ht2 hL2 hs2 hGl hll1
        go_wp2_with fail
        refine D1.out.mono ?_
        rintro e w5 ⟨rfl, he5, hg5⟩
        have HE5 := Lib.hid he5
        have HG5 := Lib.hid hg5
        have hq5 := Nat.le_trans hqr hg5.size
        have hws5 := hg5.size
        clear he5 hg5
        go_wp2_with (first
          | (refine wpList_build_at rfl 144 [(0, .tmp 27)] rfl _ _ rfl HBs.out ?_)
          | (refine wpList_store_blk rfl 144 _ _ rfl w5.heap.size rfl (G.map b8 ++ [.slice none 0 0]) rfl _ _ (Blk.new w5 144 zStep) (by rw [zStep_len]; simp [HGl.out]) (by rw [show (G.map b8 ++ [Value.slice none 0 0]).length = 33 by simp [HGl.out]]; exact infoStep) (stepL_one _ _ rfl) ?_; intro w6 hp6 hg6; have HX6 := Lib.hid hp6; have HG6' := Lib.hid hg6; clear hp6 hg6))
        have hb6 : Below w5.heap.size w5 w6 := below_box HG6'.out
        obtain ⟨gs, hgs⟩ : ∃ gs, gs = w5.heap.size := ⟨_, rfl⟩
        have hgs1 : wo.heap.size ≤ gs := by omega
        have HE6 := Lib.hid (HE5.out.below hb6 (Nat.le_refl _))
        have HG6 := Lib.hid (grown_below HG5.out (hb6.mono (by omega)))
        rw [← hgs] at HX6 ⊢
        have hq6 : gs + 1 ≤ w6.heap.size := by have := HX6.out.lt; omega
        clear hb6 HG6' HE5 HG5 hgs HBs
        refine (D2.out _ HE6.out).mono ?_
        rintro e w7 ⟨rfl, he7, hg7⟩
        have HE7 := Lib.hid he7
        have HX7 := Lib.hid (HX6.out.grown hg7 (by intro e; have := Option.some.inj e; omega))
        have HG7 := Lib.hid (grownBy_trans HG6.out hg7 (fun _ e => .inl e))
        have hq7 := Nat.le_trans hq6 hg7.size
        clear he7 hg7 HE6 HX6 HG6 D1 D2 hq5 hq6 hws5
        go_wp2_with fail
        go_loopw [8] (fun jv wr => ∃ (j : Nat) (rs : List RowT) (t' : St) (Ar : Option Addr) (cr : Nat), j ≤ M ∧ jv = .int .i64 (j : Int) ∧ rs.length = j ∧ t'.1.length ≤ 10000000 ∧ (L2, s2) = (rs.map (·.xs) ++ (pMany pRow (M - j) t').1, (pMany pRow (M - j) t').2) ∧ Blk wr gs 144 (G.map b8 ++ [.slice Ar j cr]) ∧ OwnR wr wo.heap.size (.slice Ar j cr) rs ∧ Rin wr B g t' 5 ∧ wo.grownBy wr (some g) ∧ gs + 1 ≤ wr.heap.size) (fun jv _ => M - (intOf jv).toNat)
        case atStart => exact ⟨0, [], t2, none, 0, by omega, rfl, rfl, hll2, by rw [Nat.sub_zero, List.map_nil, List.nil_append, HL2.out], HX7.out, OwnR.nil_ _ _, HE7.out.more (by omega), HG7.out, hq7⟩
        case round =>
          obtain ⟨j, rs, t', Ar, cr, hj, rfl, hrl, htl', hLt', hx, hr, he2, hg2, hqs⟩ := hrel
          clear HX7 HE7 HG7 hq7 HL2
          obtain ⟨q2, cq2, fq2, hqK2, hqb2⟩ := he2.q
          have hwow : w.heap.size ≤ wo.heap.size := HGo.out.size
          have hwr : wo.heap.size ≤ wr.heap.size := hg2.size
          by_cases hj2 : j < M
          · have hj' : (j : Int) < (M : Int) := by omega
            by_cases hbd2 : t'.2 = true
            · have hq0 : q2 ≠ 0 := fun h => by rw [hqb2.2 h] at hbd2; cases hbd2
              have hqi : ((q2 : Int) == 0) = false := by simp; omega
              have hqp2 : (q2 = 0) = False := by simp [hq0]
              have h := hLt'
              rw [pMany_bad pRow _ hbd2, List.append_nil] at h
              injection h with h1 h2
              have HLv := Lib.hid h1.symm
              have HSv := Lib.hid h2.symm
              clear hLt' hbd2 hqb2 hq0 h1 h2
              have HXs := Lib.hid hx
              have HRs := Lib.hid hr
              have HEs := Lib.hid he2
              have HGs := Lib.hid hg2
              have HXp := Lib.hid (HXo.out.grown hg2 (by intro e; have := Option.some.inj e; omega))
              have HSs := Lib.hid (HSo.out.kept hg2 hgl)
              have HUs := Lib.hid (HUo.out.kept hg2 (.inr (fun e => by have := (HUo.out.lt _ e).1; omega)))
              have HPs := Lib.hid (HPo.out.grown hg2 (by intro e; have := Option.some.inj e; omega))
              have HGw := Lib.hid (grownBy_trans HGo.out hg2 (fun _ e => .inl e))
              have hqp : gp + 1 ≤ wr.heap.size := Nat.le_trans hqr hg2.size
              have hjl := hrl
              have HSl := Lib.hid (show (G.map b8 ++ [Value.slice Ar j cr]).length = 33 by simp [HGl.out])
              have HEl := Lib.hid (show OwnSEl wr w.heap.size ⟨G, rs, Ar, cr⟩ from ⟨HGl.out, by
                show OwnR wr w.heap.size (Value.slice Ar rs.length cr) rs
                rw [hjl]
                exact HRs.out.less (Nat.le_trans (by omega) HGo.out.size), by show rs.length ≤ 255; omega⟩)
              have HRow := Lib.hid (show ∀ o, (wr.alloc o).ownsRow w.heap.size 144 33 (.slice As k cs) k (ts.flatMap StepT.cells) from fun o => by
                have h := (rowS_below HSs.out.row ((Below.refl wr.heap.size wr).alloc (Nat.le_refl _) o) (Nat.le_refl _))
                rw [HAl.out] at h
                exact h)
              have c99 : wr.cell? ⟨gp, 99, none⟩ = some (.slice As k cs) := HXp.out.cell 99 (get_last _ _ 99 HNl.out)
              clear hx hr he2 hg2
              go_wp2_with (first
                | (refine wpList_load_mid rfl 144 (.tmp 6) rfl gs 0 rfl (G.map b8 ++ [Value.slice Ar j cr]) _ (Blk.whole HXs.out) Try.underlying144 rfl (by rw [HSl.out]; exact infoStep) ?_)
                | (refine wpList_box_slice rfl 78 144 (.tmp 54) rfl j0 _ 33 (G.map b8 ++ [Value.slice Ar j cr]).toArray rfl (by simpa using HSl.out) (by omega) (by omega) Try.underlying78 hj0 hy0 hy1 zStep_len ?_)
                | (at_builtin; refine wpList_append_row rfl (.tmp 53) (.tmp 55) 78 rfl 33 (by omega) w.heap.size 144 j0 _ 56 Try.underlying78 hj0 hy0 hy1 hy2 zStep_len _ k (ts.flatMap StepT.cells) rfl (HRow.out _) (wr.heap.size + 1) (some ⟨wr.heap.size, 0, none⟩) 1 1 (G.map b8 ++ [Value.slice Ar j cr]) rfl HSl.out (by omega) (rdV_new wr 144 (G.map b8 ++ [Value.slice Ar j cr])) (stepL_one _ _ rfl) (by simp only [maxLen]; omega) (by omega) (by rw [World.size_alloc]; omega) ?_; intro v7 w7 hown7 hg7 hbb7; obtain ⟨A7, c7, rfl, -, -, -, -⟩ := rowS_shape hown7; have hx7 := (HXp.out.alloc (.cells (G.map b8 ++ [Value.slice Ar j cr]).toArray 144)).grown hg7.by_ (fun e => rowS_blk (HRow.out _) (HXp.out.alloc (.cells (G.map b8 ++ [Value.slice Ar j cr]).toArray 144)) (by decide) e.symm); have c99' := hx7.cell 99 (get_last _ _ 99 HNl.out); have f99 := hx7.frozen 99; have HX7' := Lib.hid hx7; have HO7 := Lib.hid hown7; have HG7' := Lib.hid hg7; have HB7 := Lib.hid hbb7; clear hx7 hown7 hg7 hbb7))
              have hb7 : Below w.heap.size wr w7 := HB7.out w.heap.size wr (Nat.le_refl _) ((Below.refl _ wr).alloc (show w.heap.size ≤ wr.heap.size by omega) _)
              have hum : OwnSEl w7 w.heap.size ⟨G, rs, Ar, cr⟩ ∧ ∀ t' ∈ ts, OwnSEl w7 w.heap.size t' := by
                have hf : ∀ t', OwnSEl wr w.heap.size t' → OwnSEl w7 w.heap.size t' := fun t' h =>
                  (h.below ((Below.refl wr.heap.size wr).alloc (Nat.le_refl _) (.cells (G.map b8 ++ [Value.slice Ar j cr]).toArray 144)) (Nat.le_refl _)).far (HRow.out _) HG7'.out.by_
                exact ⟨hf _ HEl.out, fun t' ht' => hf t' (HSs.out.el t' ht')⟩
              have hgs := grownBy_set w7 gp 99 (.slice A7 (k + 1) c7)
              have hpp := (HPs.out.alloc (.cells (G.map b8 ++ [Value.slice Ar j cr]).toArray 144)).grown HG7'.out.by_ (fun e => rowS_blk (HRow.out _) (HPs.out.alloc (.cells (G.map b8 ++ [Value.slice Ar j cr]).toArray 144)) (by decide) e.symm)
              have huu := (HUs.out.alloc (.cells (G.map b8 ++ [Value.slice Ar j cr]).toArray 144)).kept' HG7'.out.by_ (fun b e => rowS_unlike (HRow.out _) (HUs.out.alloc (.cells (G.map b8 ++ [Value.slice Ar j cr]).toArray 144)) (by decide) b e)
              have hq7 : gp + 1 ≤ w7.heap.size := Nat.le_trans hqp hb7.size
              go_roundw
              case rel =>
                refine ⟨k + 1, ts ++ [⟨G, rs, Ar, cr⟩], s2, A7, c7, by omega, by go_num, by rw [List.length_append, HAl.out]; rfl, HS2l.out, ?_, ?_, ⟨?_, ?_⟩, ?_, ?_, ?_, ?_, ?_⟩
                · have h := HLt.out
                  rw [show N - k = (N - (k + 1)) + 1 by omega, pMany_succ pStep _ HBd.out, HSt.out] at h
                  rw [h, List.map_append, List.append_assoc, ← HLv.out]; rfl
                · exact (HX7'.out.set_ 99 (.slice A7 (k + 1) c7)).cast (set_last _ _ _ 99 HNl.out)
                · rw [StepTC_snoc, List.length_append, HAl.out]
                  have h := HO7.out
                  refine rowS_kept' (show w7.ownsRow w.heap.size 144 33 (.slice A7 (k + 1) c7) (k + 1) (ts.flatMap StepT.cells ++ StepT.cells ⟨G, rs, Ar, cr⟩) by unfold StepT.cells; rw [hjl]; exact h) hgs (fun b e e2 => by cases e; exact rowS_blk h HX7'.out (by decide) e2)
                · intro t' ht'
                  rcases List.mem_append.1 ht' with h | h
                  · exact (hum.2 t' h).far0 hgs HX7'.out
                  · obtain rfl := List.mem_singleton.1 h; exact hum.1.far0 hgs HX7'.out
                · exact huu.kept hgs (.inr (fun e => by have := (huu.lt _ e).1; have := HX7'.out.not_row (by decide) huu; exact this e.symm))
                · rw [← HSv.out]
                  exact ((HEs.out.low hb7 hgl).grown hgs (by omega) (by omega)).more (by omega)
                · exact grownBy_trans (grown_below HGw.out hb7) hgs (fun _ e => .inr (by cases e; omega))
                · exact hpp.grown hgs (by intro e; have := Option.some.inj e; omega)
                · exact Nat.le_trans hq7 hgs.size
              case measure => simp [intOf]; omega
            · have hbd2' : t'.2 = false := by simpa using hbd2
              obtain rfl : q2 = 0 := hqb2.1 hbd2'
              have hgo : g < wo.heap.size := HE0.out.lt
              have HEd := Lib.hid ((he2.none_ hbd2').below (Below.refl _ wr).drew (Nat.le_refl _))
              have hx' : Blk wr.drew gs 144 (G.map b8 ++ [.slice Ar j cr]) := hx
              have HG32 := Lib.hid (show (G.map b8).length = 32 by simp [HGl.out])
              have c32 : wr.drew.cell? ⟨gs, 32, none⟩ = some (.slice Ar j cr) := hx'.cell 32 (get_last _ _ 32 HG32.out)
              have HXr := Lib.hid hx'
              have HRr := Lib.hid (show OwnR wr.drew wo.heap.size (.slice Ar j cr) rs from hr.below (Below.refl _ wr).drew (Nat.le_refl _))
              have HGr := Lib.hid (show wo.grownBy wr.drew (some g) from ⟨hg2.os, hg2.tape, hg2.output, hg2.size, hg2.block⟩)
              have HLt' := Lib.hid hLt'
              have HRl := Lib.hid hrl
              have HBd2 := Lib.hid hbd2'
              obtain ⟨m, hm⟩ : ∃ m, m = (pNum 2 t').1 := ⟨_, rfl⟩
              obtain ⟨u1, hu1⟩ : ∃ u1, u1 = (pNum 2 t').2 := ⟨_, rfl⟩
              obtain ⟨xs, hxs⟩ : ∃ xs, xs = (pTk m u1).1 := ⟨_, rfl⟩
              obtain ⟨u2, hu2⟩ : ∃ u2, u2 = (pTk m u1).2 := ⟨_, rfl⟩
              have HRow' := Lib.hid (show pRow t' = (xs, u2) by rw [pRow, ← hm, ← hu1, hxs, hu2])
              have hmb : m < 65536 := by rw [hm]; exact beVal_lt 2 _ (tkO_len _ _)
              have hxl : xs.length = m := by rw [hxs]; exact pTk_len _ _
              have hul : u1.1.length ≤ 10000000 := by rw [hu1]; exact Nat.le_trans (pNum_le 2 t') htl'
              have hul2 : u2.1.length ≤ 10000000 := by rw [hu2]; exact Nat.le_trans (pTk_le m u1) hul
              have E1 := Lib.hid (show Calls Try.prog 94 #[.pointer (some ⟨g, 0, none⟩), .int .i64 2] wr.drew fun e w' => e = .returned (.int .i64 (m : Int)) ∧ Rin w' B g u1 1 ∧ wr.drew.grownBy w' (some g) by rw [hm, hu1]; exact rnum_any HEd.out 2 2 rfl (by omega) (by omega) (by omega))
              have E2 := Lib.hid (fun (W : World) (h : Rin W B g u1 1) => (show Calls Try.prog 97 #[.pointer (some ⟨g, 0, none⟩), .int .i64 (m : Int)] W fun e w' => ∃ v, e = .returned v ∧ Own b8 w' W.heap.size 5 v xs ∧ Rin w' B g u2 2 ∧ W.grownBy w' (some g) by rw [hxs, hu2]; exact rtake_any h m (by omega) (by omega) (by omega)))
              have HXL := Lib.hid hxl
              clear hx hx' hr hg2 hLt' hrl he2 hqb2 hbd2 hbd2' hm hu1 hxs hu2 hxl hul
              go_wp2_with fail
              refine wp_region_Y (by kernel_rfl) (fun w' : World => w'.cell? ⟨gs, 32, none⟩ = some (.slice Ar j cr)) 9 ?_
              have hS : (fun w' : World => w'.cell? ⟨gs, 32, none⟩ = some (.slice Ar j cr)) wr.drew := c32
              refine wpAnyY_pure (i := 0) (v := .pointer (some ⟨gs, 32, none⟩)) rfl (by kernel_rfl) (by kernel_rfl) (by kernel_rfl) (by kernel_rfl) (fun _ _ _ h => h) (Or.inl ⟨by rfl, ?_⟩) hS ?_
              · intro w' hw'
                go_simp
              try simp only [Act.put, List.setIfInBounds_toArray, List.set_cons_zero, List.set_cons_succ]
              refine wpAnyY_take (i := 1) (v := .slice Ar j cr) rfl (by kernel_rfl) (by kernel_rfl) (by kernel_rfl) (by kernel_rfl) (by kernel_rfl) (fun _ _ _ h => h) (Or.inl ⟨by rfl, ?_⟩) hS ?_
              · intro w' hw'
                go_simp
              try simp only [Act.put, List.setIfInBounds_toArray, List.set_cons_zero, List.set_cons_succ]
              refine wpAnyY_pure (i := 2) (v := .pointer (some ⟨g, 0, none⟩)) rfl (by kernel_rfl) (by kernel_rfl) (by kernel_rfl) (by kernel_rfl) (fun _ _ _ h => h) (Or.inl ⟨by rfl, ?_⟩) hS ?_
              · intro w' hw'
                go_simp
              try simp only [Act.put, List.setIfInBounds_toArray, List.set_cons_zero, List.set_cons_succ]
              refine wpAnyY_pure (i := 3) (v := .pointer (some ⟨g, 0, none⟩)) rfl (by kernel_rfl) (by kernel_rfl) (by kernel_rfl) (by kernel_rfl) (fun _ _ _ h => h) (Or.inl ⟨by rfl, ?_⟩) hS ?_
              · intro w' hw'
                go_simp
              try simp only [Act.put, List.setIfInBounds_toArray, List.set_cons_zero, List.set_cons_succ]
              refine wpAnyY_one (i := 4) (by kernel_rfl) rfl (fun K' hK => ?_)
              go_simp
              go_at_call 94
              refine E1.out.mono ?_
              rintro e w5 ⟨rfl, he5, hg5⟩
              have HE5 := Lib.hid he5
              have HX5 := Lib.hid (HXr.out.grown hg5 (by intro e; have := Option.some.inj e; omega))
              have HR5 := Lib.hid (HRr.out.kept hg5 hgo)
              have HG5 := Lib.hid (grownBy_trans HGr.out hg5 (fun _ e => .inl e))
              have hq5 : gs + 1 ≤ w5.heap.size := Nat.le_trans hqs hg5.size
              have c32a : w5.cell? ⟨gs, 32, none⟩ = some (.slice Ar j cr) := HX5.out.cell 32 (get_last _ _ 32 HG32.out)
              clear he5 hg5 HEd HXr HRr HGr c32 E1
              refine hK _ _ (fun _ => c32a) ?_
              clear hK K'
              try simp only [Act.put, List.setIfInBounds_toArray, List.set_cons_zero, List.set_cons_succ]
              refine wpAnyY_one (i := 5) (by kernel_rfl) rfl (fun K' hK => ?_)
              go_simp
              go_at_call 97
              refine (E2.out _ HE5.out).mono ?_
              rintro e w6 ⟨v6, rfl, ho6, he6, hg6⟩
              obtain ⟨A6, c6, rfl, -, -, -, -⟩ := ho6.shape' HXL.out
              have HE6 := Lib.hid he6
              have HO6 := Lib.hid ho6
              have HX6 := Lib.hid (HX5.out.grown hg6 (by intro e; have := Option.some.inj e; omega))
              have HR6 := Lib.hid (HR5.out.kept hg6 hgo)
              have HG6 := Lib.hid (grownBy_trans HG5.out hg6 (fun _ e => .inl e))
              have hq6 : gs + 1 ≤ w6.heap.size := Nat.le_trans hq5 hg6.size
              have c32b : w6.cell? ⟨gs, 32, none⟩ = some (.slice Ar j cr) := HX6.out.cell 32 (get_last _ _ 32 HG32.out)
              have c32c : ∀ o, (w6.alloc o).cell? ⟨gs, 32, none⟩ = some (.slice Ar j cr) := fun o => (HX6.out.alloc o).cell 32 (get_last _ _ 32 HG32.out)
              have hw56 : wo.heap.size ≤ w5.heap.size := HG5.out.size
              clear he6 ho6 hg6 HE5 HX5 HR5 HG5 c32a E2
              refine hK _ _ (fun _ => c32b) ?_
              clear hK K'
              try simp only [Act.put, List.setIfInBounds_toArray, List.set_cons_zero, List.set_cons_succ]
              refine wpAnyY_one (i := 6) (by kernel_rfl) rfl (fun K' hK => ?_)
              go_simp
              refine hK _ _ (fun _ => c32c _) ?_
              clear hK K'
              try simp only [Act.put, List.setIfInBounds_toArray, List.set_cons_zero, List.set_cons_succ]
              have HRow6 := Lib.hid (show (w6.alloc (.cells #[.slice A6 m c6] 24)).ownsRow wo.heap.size 24 1 (.slice Ar j cr) j (rs.flatMap RowT.cells) by
                have h := rowS_below HR6.out.row ((Below.refl w6.heap.size w6).alloc (Nat.le_refl _) (.cells #[.slice A6 m c6] 24)) (Nat.le_refl _)
                rw [HRl.out] at h
                exact h)
              refine wpAnyY_one (i := 7) (by kernel_rfl) rfl (fun K' hK => ?_)
              refine step_append_row rfl (.tmp 44) (.tmp 49) 142 rfl 1 (by omega) wo.heap.size 24 i0 _ 24 Try.underlying142 hi0 hz0 hz1 hz2 rfl _ j (rs.flatMap RowT.cells) rfl HRow6.out (w6.heap.size + 1) (some ⟨w6.heap.size, 0, none⟩) 1 1 [.slice A6 m c6] rfl rfl (by omega) (rdV_new w6 24 [.slice A6 m c6]) (by intro u hu; rw [List.mem_singleton.1 hu]; rfl) (by simp only [maxLen]; omega) (by omega) (by rw [World.size_alloc]; omega) ?_
              intro v7 w7 hown7 hg7 hbb7
              have hb7 : Below wo.heap.size w6 w7 := hbb7 wo.heap.size w6 (Nat.le_refl _) ((Below.refl _ w6).alloc (by omega) _)
              obtain ⟨A7, c7, rfl, -, -, -, -⟩ := rowS_shape hown7
              have hx7 := (HX6.out.alloc (.cells #[.slice A6 m c6] 24)).grown hg7.by_ (fun e => rowS_blk HRow6.out (HX6.out.alloc (.cells #[.slice A6 m c6] 24)) (by decide) e.symm)
              have c32d := hx7.cell 32 (get_last _ _ 32 HG32.out)
              have f32 := hx7.frozen 32
              have hf : ∀ (r : RowT), Own b8 w6 wo.heap.size 5 r.cell r.xs → Own b8 w7 wo.heap.size 5 r.cell r.xs := fun r h =>
                (h.alloc (.cells #[.slice A6 m c6] 24)).kept' hg7.by_ (fun b e => rowS_unlike HRow6.out (h.alloc (.cells #[.slice A6 m c6] 24)) (by decide) b e)
              have hgs7 := grownBy_set w7 gs 32 (.slice A7 (j + 1) c7)
              have HX7' := Lib.hid hx7
              have HO7 := Lib.hid hown7
              have HF7 := Lib.hid hf
              have HB7 := Lib.hid hb7
              have HGS7 := Lib.hid hgs7
              clear hx7 hown7 hg7 hbb7 hb7 hf c32b c32c hgs7
              refine hK _ _ (fun _ => c32d) ?_
              clear hK K'
              try simp only [Act.put, List.setIfInBounds_toArray, List.set_cons_zero, List.set_cons_succ]
              refine wpAnyY_one (i := 8) (by kernel_rfl) rfl (fun K' hK => ?_)
              go_simp
              refine hK _ _ (fun _ => c32d) ?_
              clear hK K'
              try simp only [Act.put, List.setIfInBounds_toArray, List.set_cons_zero, List.set_cons_succ]
              refine wpAnyY_one (i := 9) (by kernel_rfl) rfl (fun K' hK => ?_)
              go_simp
              refine hK _ _ (fun h => absurd rfl h) (wpAnyY_done (by kernel_rfl) ?_ _)
              clear hK K'
              go_wp2_with fail
              go_roundw
              case rel =>
                have hcell : (⟨xs, A6, c6⟩ : RowT).cell = .slice A6 m c6 := by unfold RowT.cell; rw [HXL.out]
                refine ⟨j + 1, rs ++ [⟨xs, A6, c6⟩], u2, A7, c7, by omega, by go_num, by rw [List.length_append, HRl.out]; rfl, hul2, ?_, ?_, ⟨?_, ?_⟩, ?_, ?_, ?_⟩
                · have h := HLt'.out
                  rw [show M - j = (M - (j + 1)) + 1 by omega, pMany_succ pRow _ HBd2.out, HRow'.out] at h
                  rw [h, List.map_append, List.append_assoc]; rfl
                · exact (HX7'.out.set_ 32 (.slice A7 (j + 1) c7)).cast (set_last _ _ _ 32 HG32.out)
                · rw [rowsC_snoc, List.length_append, HRl.out, hcell]
                  exact rowS_kept' HO7.out HGS7.out (fun b e e2 => by cases e; exact rowS_blk HO7.out HX7'.out (by decide) e2)
                · intro r hr'
                  rcases List.mem_append.1 hr' with h | h
                  · have h1 := HF7.out r (HR6.out.xs r h).1
                    exact ⟨h1.kept HGS7.out (.inr (HX7'.out.not_row (by decide) h1).symm), (HR6.out.xs r h).2⟩
                  · obtain rfl := List.mem_singleton.1 h
                    have h1 := HF7.out ⟨xs, A6, c6⟩ (by rw [hcell]; exact HO6.out.less hw56)
                    exact ⟨h1.kept HGS7.out (.inr (HX7'.out.not_row (by decide) h1).symm), by show xs.length ≤ 65535; rw [HXL.out]; omega⟩
                · exact ((HE6.out.low HB7.out hgo).grown HGS7.out (by omega) (by omega)).more (by omega)
                · exact grownBy_trans (grown_below HG6.out HB7.out) HGS7.out (fun _ e => .inr (by cases e; omega))
                · exact Nat.le_trans (Nat.le_trans hq6 HB7.out.size) HGS7.out.size
              case measure => simp [intOf]; omega
          · obtain rfl : j = M := by omega
            have h := hLt'
            rw [Nat.sub_self] at h
            injection h with h1 h2
            have HLv := Lib.hid (show rs.map (·.xs) = L2 by rw [h1]; simp [pMany])
            have HSv := Lib.hid (show t' = s2 by rw [h2]; simp [pMany])
            clear hLt' hqb2 h1 h2
            have HXs := Lib.hid hx
            have HRs := Lib.hid hr
            have HEs := Lib.hid he2
            have HGs := Lib.hid hg2
            have HXp := Lib.hid (HXo.out.grown hg2 (by intro e; have := Option.some.inj e; omega))
            have HSs := Lib.hid (HSo.out.kept hg2 hgl)
            have HUs := Lib.hid (HUo.out.kept hg2 (.inr (fun e => by have := (HUo.out.lt _ e).1; omega)))
            have HPs := Lib.hid (HPo.out.grown hg2 (by intro e; have := Option.some.inj e; omega))
            have HGw := Lib.hid (grownBy_trans HGo.out hg2 (fun _ e => .inl e))
            have hqp : gp + 1 ≤ wr.heap.size := Nat.le_trans hqr hg2.size
            have hjl := hrl
            have HSl := Lib.hid (show (G.map b8 ++ [Value.slice Ar j cr]).length = 33 by simp [HGl.out])
            have HEl := Lib.hid (show OwnSEl wr w.heap.size ⟨G, rs, Ar, cr⟩ from ⟨HGl.out, by
              show OwnR wr w.heap.size (Value.slice Ar rs.length cr) rs
              rw [hjl]
              exact HRs.out.less (Nat.le_trans (by omega) HGo.out.size), by show rs.length ≤ 255; omega⟩)
            have HRow := Lib.hid (show ∀ o, (wr.alloc o).ownsRow w.heap.size 144 33 (.slice As k cs) k (ts.flatMap StepT.cells) from fun o => by
              have h := (rowS_below HSs.out.row ((Below.refl wr.heap.size wr).alloc (Nat.le_refl _) o) (Nat.le_refl _))
              rw [HAl.out] at h
              exact h)
            have c99 : wr.cell? ⟨gp, 99, none⟩ = some (.slice As k cs) := HXp.out.cell 99 (get_last _ _ 99 HNl.out)
            clear hx hr he2 hg2
            go_wp2_with (first
              | (refine wpList_load_mid rfl 144 (.tmp 6) rfl gs 0 rfl (G.map b8 ++ [Value.slice Ar j cr]) _ (Blk.whole HXs.out) Try.underlying144 rfl (by rw [HSl.out]; exact infoStep) ?_)
              | (refine wpList_box_slice rfl 78 144 (.tmp 54) rfl j0 _ 33 (G.map b8 ++ [Value.slice Ar j cr]).toArray rfl (by simpa using HSl.out) (by omega) (by omega) Try.underlying78 hj0 hy0 hy1 zStep_len ?_)
              | (at_builtin; refine wpList_append_row rfl (.tmp 53) (.tmp 55) 78 rfl 33 (by omega) w.heap.size 144 j0 _ 56 Try.underlying78 hj0 hy0 hy1 hy2 zStep_len _ k (ts.flatMap StepT.cells) rfl (HRow.out _) (wr.heap.size + 1) (some ⟨wr.heap.size, 0, none⟩) 1 1 (G.map b8 ++ [Value.slice Ar j cr]) rfl HSl.out (by omega) (rdV_new wr 144 (G.map b8 ++ [Value.slice Ar j cr])) (stepL_one _ _ rfl) (by simp only [maxLen]; omega) (by omega) (by rw [World.size_alloc]; omega) ?_; intro v7 w7 hown7 hg7 hbb7; obtain ⟨A7, c7, rfl, -, -, -, -⟩ := rowS_shape hown7; have hx7 := (HXp.out.alloc (.cells (G.map b8 ++ [Value.slice Ar j cr]).toArray 144)).grown hg7.by_ (fun e => rowS_blk (HRow.out _) (HXp.out.alloc (.cells (G.map b8 ++ [Value.slice Ar j cr]).toArray 144)) (by decide) e.symm); have c99' := hx7.cell 99 (get_last _ _ 99 HNl.out); have f99 := hx7.frozen 99; have HX7' := Lib.hid hx7; have HO7 := Lib.hid hown7; have HG7' := Lib.hid hg7; have HB7 := Lib.hid hbb7; clear hx7 hown7 hg7 hbb7))
            have hb7 : Below w.heap.size wr w7 := HB7.out w.heap.size wr (Nat.le_refl _) ((Below.refl _ wr).alloc (show w.heap.size ≤ wr.heap.size by omega) _)
            have hum : OwnSEl w7 w.heap.size ⟨G, rs, Ar, cr⟩ ∧ ∀ t' ∈ ts, OwnSEl w7 w.heap.size t' := by
              have hf : ∀ t', OwnSEl wr w.heap.size t' → OwnSEl w7 w.heap.size t' := fun t' h =>
                (h.below ((Below.refl wr.heap.size wr).alloc (Nat.le_refl _) (.cells (G.map b8 ++ [Value.slice Ar j cr]).toArray 144)) (Nat.le_refl _)).far (HRow.out _) HG7'.out.by_
              exact ⟨hf _ HEl.out, fun t' ht' => hf t' (HSs.out.el t' ht')⟩
            have hgs := grownBy_set w7 gp 99 (.slice A7 (k + 1) c7)
            have hpp := (HPs.out.alloc (.cells (G.map b8 ++ [Value.slice Ar j cr]).toArray 144)).grown HG7'.out.by_ (fun e => rowS_blk (HRow.out _) (HPs.out.alloc (.cells (G.map b8 ++ [Value.slice Ar j cr]).toArray 144)) (by decide) e.symm)
            have huu := (HUs.out.alloc (.cells (G.map b8 ++ [Value.slice Ar j cr]).toArray 144)).kept' HG7'.out.by_ (fun b e => rowS_unlike (HRow.out _) (HUs.out.alloc (.cells (G.map b8 ++ [Value.slice Ar j cr]).toArray 144)) (by decide) b e)
            have hq7 : gp + 1 ≤ w7.heap.size := Nat.le_trans hqp hb7.size
            go_roundw
            case rel =>
              refine ⟨k + 1, ts ++ [⟨G, rs, Ar, cr⟩], s2, A7, c7, by omega, by go_num, by rw [List.length_append, HAl.out]; rfl, HS2l.out, ?_, ?_, ⟨?_, ?_⟩, ?_, ?_, ?_, ?_, ?_⟩
              · have h := HLt.out
                rw [show N - k = (N - (k + 1)) + 1 by omega, pMany_succ pStep _ HBd.out, HSt.out] at h
                rw [h, List.map_append, List.append_assoc, ← HLv.out]; rfl
              · exact (HX7'.out.set_ 99 (.slice A7 (k + 1) c7)).cast (set_last _ _ _ 99 HNl.out)
              · rw [StepTC_snoc, List.length_append, HAl.out]
                have h := HO7.out
                refine rowS_kept' (show w7.ownsRow w.heap.size 144 33 (.slice A7 (k + 1) c7) (k + 1) (ts.flatMap StepT.cells ++ StepT.cells ⟨G, rs, Ar, cr⟩) by unfold StepT.cells; rw [hjl]; exact h) hgs (fun b e e2 => by cases e; exact rowS_blk h HX7'.out (by decide) e2)
              · intro t' ht'
                rcases List.mem_append.1 ht' with h | h
                · exact (hum.2 t' h).far0 hgs HX7'.out
                · obtain rfl := List.mem_singleton.1 h; exact hum.1.far0 hgs HX7'.out
              · exact huu.kept hgs (.inr (fun e => by have := (huu.lt _ e).1; have := HX7'.out.not_row (by decide) huu; exact this e.symm))
              · rw [← HSv.out]
                exact ((HEs.out.low hb7 hgl).grown hgs (by omega) (by omega)).more (by omega)
              · exact grownBy_trans (grown_below HGw.out hb7) hgs (fun _ e => .inr (by cases e; omega))
              · exact hpp.grown hgs (by intro e; have := Option.some.inj e; omega)
              · exact Nat.le_trans hq7 hgs.size
            case measure => simp [intOf]; omega
    · obtain rfl : k = N := by omega
      have h := hLt
      rw [Nat.sub_self] at h
      injection h with h1 h2
      have HLf := Lib.hid (show ts.map StepT.v = L by rw [h1]; simp [pMany])
      have HXf := Lib.hid hxp
      have HSf := Lib.hid hos
      have HUf := Lib.hid hu
      have HEf := Lib.hid (show Rin wo B g sL (K0 + 20) by rw [h2]; exact he)
      have HGf := Lib.hid hg
      have HPf := Lib.hid hp
      clear hLt hxp hos hu he hg hp hqb hal h1 h2
      have HXm := Lib.hid HXf.out
      go_wp2_with (first
        | (refine wpList_load_mid rfl 80 (.tmp 3) rfl gp 0 rfl (nodeC x A2 c2 ++ [.slice As k cs]) _ (Blk.whole HXm.out) Try.underlying80 rfl (by rw [HXl.out]; exact infoPath100) ?_)
        | (refine wpList_store_blk rfl 80 _ _ rfl w.heap.size rfl (nodeC x A2 c2 ++ [.slice As k cs]) rfl _ _ HPf.out (by rw [zPathL_len, HXl.out]) (by rw [HXl.out]; exact infoPath100) (pathL_one _ _ _ _ rfl) ?_; intro wz hpz hgz; have HPz := Lib.hid hpz; have HGz := Lib.hid hgz; clear hpz hgz))
      refine bodyPost_ret (results_blk (g := w.heap.size) rfl _ _ _ _ _ rfl HPz.out Try.underlying80 rfl (by rw [HXl.out]; exact infoPath100)) rfl ?_
      refine ⟨⟨x, A2, c2, ts, As, cs⟩, by show _ = Ending.returned (.agg (nodeC x A2 c2 ++ [Value.slice As ts.length cs]).toArray); rw [HAl.out], rfl, HLf.out, ?_, ?_, HEf.out.grown HGz.out (by omega) hgl, grownBy_trans HGf.out HGz.out (fun _ e => .inr (by cases e; exact Nat.le_refl _))⟩
      · exact (HUf.out.kept HGz.out (.inr (fun e => by have := (HUf.out.lt _ e).1; omega))).less (by omega)
      · show OwnS wz w.heap.size (.slice As ts.length cs) ts
        rw [HAl.out]
        have hne : (Value.slice As k cs).ownBlock ≠ some w.heap.size := rowS_blk HSf.out.row HPf.out (by decide)
        exact ⟨rowS_kept' HSf.out.row HGz.out (fun b e e2 => by cases e; exact hne e2), fun t' ht' => (HSf.out.el t' ht').far0 HGz.out HPf.out⟩
end Go.Proofs.Ytloglpamnalmeaa

/- CONTRACT: burrowref09.TakeCommit: only whether the bytes are good. -/
namespace Go.Proofs.Ytloglpamnalmeaa
open Go.RowKit
set_option linter.unusedVariables false
set_option linter.unusedSimpArgs false

/-- a commit's cells while it is read -/
def cmC (G : List (BitVec 8)) (E F : Int) (C : List (BitVec 8)) (v : Value) (pl : List Value) (J Y : List (BitVec 8)) : List Value := G.map b8 ++ (.int .i64 E :: .int .i64 F :: (C.map b8 ++ (v :: (pl ++ (J.map b8 ++ Y.map b8)))))
theorem commC_cm (G : List (BitVec 8)) (E F : Int) (C : List (BitVec 8)) (ts : List PropT) (Ap : Option Addr) (cp : Nat) (p : PathT) (J Y : List (BitVec 8)) : commC ⟨G, E, F, C, ts, Ap, cp, p, J, Y⟩ = cmC G E F C (.slice Ap ts.length cp) p.cells J Y := rfl
theorem cmC_one (G : List (BitVec 8)) (E F : Int) (C : List (BitVec 8)) (v : Value) (hv : v.oneCell' = true) (pl : List Value) (hpl : ∀ u ∈ pl, u.oneCell' = true) (J Y : List (BitVec 8)) : ∀ u ∈ cmC G E F C v pl J Y, u.oneCell' = true := by
  intro u hu
  simp only [cmC, List.mem_append, List.mem_map, List.mem_cons] at hu
  rcases hu with ⟨y, -, rfl⟩ | rfl | rfl | ⟨y, -, rfl⟩ | rfl | h | ⟨y, -, rfl⟩ | ⟨y, -, rfl⟩
  all_goals first | exact hpl u h | exact hv | rfl
set_option maxRecDepth 100000 in
theorem built_rComm (G : List (BitVec 8)) (h : G.length = 32) : Try.prog.built 82 [(0, .agg (G.map b8).toArray)] = some (cmC G 0 0 zero32 (.slice none 0 0) zPathL zero32 zSig).toArray := by
  obtain ⟨x0, x1, x2, x3, x4, x5, x6, x7, x8, x9, x10, x11, x12, x13, x14, x15, x16, x17, x18, x19, x20, x21, x22, x23, x24, x25, x26, x27, x28, x29, x30, x31, rfl⟩ := list32 h
  kernel_rfl
theorem built_zComm : Try.prog.built 82 [] = some zerosCommit.toArray := by kernel_rfl
set_option maxRecDepth 100000 in
set_option maxHeartbeats 8000000 in
theorem rtakeCommit_any {w : World} {B' : Nat} {A : Option Addr} {n c : Nat} {bs : List (BitVec 8)} (hr : Rd b8 w B' A bs) (hB' : B' ≤ w.heap.size) (hn : bs.length = n) (hnc : n ≤ c) (hy : n ≤ 1000000) :
    Calls Try.prog 43 #[.slice A n c] w fun e w' => Below w.heap.size w w' ∧ ∃ cs : List Value, e = .returned (.tuple #[.agg cs.toArray, .bool (goodC bs)]) ∧ cs.length = 263 ∧ ∀ u ∈ cs, u.oneCell' = true := by
  obtain ⟨i0, hi0, hz0, hz1, hz2⟩ := info_parts infoPropZ
  have HR := Lib.hid hr
  have HN := Lib.hid hn
  obtain ⟨s0, hs0⟩ : ∃ s : St, s = (bs, false) := ⟨_, rfl⟩
  have l0 : s0.1.length ≤ 1000000 := by rw [hs0]; show bs.length ≤ _; omega
  obtain ⟨G, hG⟩ : ∃ x, x = (pTk 32 s0).1 := ⟨_, rfl⟩
  obtain ⟨s1, hs1⟩ : ∃ x, x = (pTk 32 s0).2 := ⟨_, rfl⟩
  have ls1 : s1.1.length ≤ 1000000 := by rw [hs1]; exact Nat.le_trans (pTk_le _ _) l0
  obtain ⟨E, hE⟩ : ∃ x, x = (pNum 4 s1).1 := ⟨_, rfl⟩
  obtain ⟨s2, hs2⟩ : ∃ x, x = (pNum 4 s1).2 := ⟨_, rfl⟩
  have ls2 : s2.1.length ≤ 1000000 := by rw [hs2]; exact Nat.le_trans (pNum_le _ _) ls1
  obtain ⟨F, hF⟩ : ∃ x, x = (pNum 1 s2).1 := ⟨_, rfl⟩
  obtain ⟨s3, hs3⟩ : ∃ x, x = (pNum 1 s2).2 := ⟨_, rfl⟩
  have ls3 : s3.1.length ≤ 1000000 := by rw [hs3]; exact Nat.le_trans (pNum_le _ _) ls2
  obtain ⟨C, hC⟩ : ∃ x, x = (pTk 32 s3).1 := ⟨_, rfl⟩
  obtain ⟨s4, hs4⟩ : ∃ x, x = (pTk 32 s3).2 := ⟨_, rfl⟩
  have ls4 : s4.1.length ≤ 1000000 := by rw [hs4]; exact Nat.le_trans (pTk_le _ _) ls3
  obtain ⟨N, hN⟩ : ∃ x, x = (pNum 1 s4).1 := ⟨_, rfl⟩
  obtain ⟨s4b, hs4b⟩ : ∃ x, x = (pNum 1 s4).2 := ⟨_, rfl⟩
  have ls4b : s4b.1.length ≤ 1000000 := by rw [hs4b]; exact Nat.le_trans (pNum_le _ _) ls4
  obtain ⟨LP, hLP⟩ : ∃ x, x = (pMany pProp N s4b).1 := ⟨_, rfl⟩
  obtain ⟨s5, hs5⟩ : ∃ x, x = (pMany pProp N s4b).2 := ⟨_, rfl⟩
  have ls5 : s5.1.length ≤ 1000000 := by rw [hs5]; exact Nat.le_trans (pMany_le pProp pProp_le _ _) ls4b
  obtain ⟨xl, hxl⟩ : ∃ x, x = (pNode s5).1 := ⟨_, rfl⟩
  obtain ⟨s6, hs6⟩ : ∃ x, x = (pNode s5).2 := ⟨_, rfl⟩
  have ls6 : s6.1.length ≤ 1000000 := by rw [hs6]; exact Nat.le_trans (pNode_le _) ls5
  obtain ⟨LS, hLS⟩ : ∃ x, x = (pList pStep s6).1 := ⟨_, rfl⟩
  obtain ⟨s7, hs7⟩ : ∃ x, x = (pList pStep s6).2 := ⟨_, rfl⟩
  have ls7 : s7.1.length ≤ 1000000 := by rw [hs7]; exact Nat.le_trans (pList_le pStep pStep_le _) ls6
  obtain ⟨J, hJ⟩ : ∃ x, x = (pTk 32 s7).1 := ⟨_, rfl⟩
  obtain ⟨s8, hs8⟩ : ∃ x, x = (pTk 32 s7).2 := ⟨_, rfl⟩
  have ls8 : s8.1.length ≤ 1000000 := by rw [hs8]; exact Nat.le_trans (pTk_le _ _) ls7
  obtain ⟨Y, hY⟩ : ∃ x, x = (pTk 64 s8).1 := ⟨_, rfl⟩
  obtain ⟨s9, hs9⟩ : ∃ x, x = (pTk 64 s8).2 := ⟨_, rfl⟩
  have ls9 : s9.1.length ≤ 1000000 := by rw [hs9]; exact Nat.le_trans (pTk_le _ _) ls8
  have Gl : G.length = 32 := by rw [hG]; exact pTk_len _ _
  have Cl : C.length = 32 := by rw [hC]; exact pTk_len _ _
  have Jl : J.length = 32 := by rw [hJ]; exact pTk_len _ _
  have Yl : Y.length = 64 := by rw [hY]; exact pTk_len _ _
  have hNb : N < 256 := by rw [hN]; exact pNum1_lt s4
  have Eb : E < 4294967296 := by rw [hE]; exact Nat.lt_of_lt_of_le (beVal_lt 4 _ (tkO_len _ _)) (by decide)
  have Fb : F < 4294967296 := by rw [hF]; exact Nat.lt_of_lt_of_le (beVal_lt 1 _ (tkO_len _ _)) (by decide)
  have xok : xl.Ok := by rw [hxl]; exact pNode_ok _
  have xum : xl.um.length ≤ 300 := by rw [hxl]; have := pNode_um s5; omega
  have hLSl : LS.length ≤ 255 := by rw [hLS]; exact pList_len _ _
  have e5 : pList pProp s4 = (LP, s5) := by rw [hLP, hs5, hN, hs4b]; rfl
  have hpp : cmV (bs, false) = ⟨G, E, F, C, LP, xl, LS, J, Y⟩ := by
    have f1 : cmS1 (bs, false) = s1 := by rw [cmS1, hs1, hs0]
    have f2 : cmS2 (bs, false) = s2 := by rw [cmS2, f1, hs2]
    have f3 : cmS3 (bs, false) = s3 := by rw [cmS3, f2, hs3]
    have f4 : cmS4 (bs, false) = s4 := by rw [cmS4, f3, hs4]
    have f5 : cmS5 (bs, false) = s5 := by rw [cmS5, f4, e5]
    have f6 : cmS6 (bs, false) = s6 := by rw [cmS6, f5, hs6]
    have f7 : cmS7 (bs, false) = s7 := by rw [cmS7, f6, hs7]
    have f8 : cmS8 (bs, false) = s8 := by rw [cmS8, f7, hs8]
    rw [cmV, f1, f2, f3, f4, f5, f6, f7, f8, e5, ← hs0, ← hG, ← hE, ← hF, ← hC, ← hxl, ← hLS, ← hJ, ← hY]
  have hp9 : cmS9 (bs, false) = s9 := by
    have f1 : cmS1 (bs, false) = s1 := by rw [cmS1, hs1, hs0]
    have f2 : cmS2 (bs, false) = s2 := by rw [cmS2, f1, hs2]
    have f3 : cmS3 (bs, false) = s3 := by rw [cmS3, f2, hs3]
    have f4 : cmS4 (bs, false) = s4 := by rw [cmS4, f3, hs4]
    have f5 : cmS5 (bs, false) = s5 := by rw [cmS5, f4, e5]
    have f6 : cmS6 (bs, false) = s6 := by rw [cmS6, f5, hs6]
    have f7 : cmS7 (bs, false) = s7 := by rw [cmS7, f6, hs7]
    have f8 : cmS8 (bs, false) = s8 := by rw [cmS8, f7, hs8]
    rw [cmS9, f8, hs9]
  obtain ⟨V, hV⟩ : ∃ V : CommV, V = ⟨G, E, F, C, LP, xl, LS, J, Y⟩ := ⟨_, rfl⟩
  obtain ⟨q, hq⟩ : ∃ q, q = goodC bs := ⟨_, rfl⟩
  rw [← hq]
  have HQ := Lib.hid (show chkGood s9.2 s9.1 bs (commBadX V || decide (65536 < (commBX V).length)) (commBX V) = q by rw [hq]; unfold goodC; rw [hpp, hp9, ← hV])
  have HV := Lib.hid hV
  have C1 := Lib.hid (fun (W : World) (h : Rin W (w.heap.size + 1) (w.heap.size + 1) s0 0) => (show Calls Try.prog 93 #[.pointer (some ⟨w.heap.size + 1, 0, none⟩)] W fun e w' => e = .returned (.agg (G.map b8).toArray) ∧ Rin w' (w.heap.size + 1) (w.heap.size + 1) s1 1 ∧ W.grownBy w' (some (w.heap.size + 1)) by rw [hG, hs1]; exact rsum_any h (by omega) (by omega)))
  have C2 := Lib.hid (fun (W : World) (h : Rin W (w.heap.size + 1) (w.heap.size + 1) s1 1) => (show Calls Try.prog 94 #[.pointer (some ⟨w.heap.size + 1, 0, none⟩), .int .i64 4] W fun e w' => e = .returned (.int .i64 (E : Int)) ∧ Rin w' (w.heap.size + 1) (w.heap.size + 1) s2 2 ∧ W.grownBy w' (some (w.heap.size + 1)) by rw [hE, hs2]; exact rnum_any h 4 4 rfl (by omega) (by omega) (by omega)))
  have C3 := Lib.hid (fun (W : World) (h : Rin W (w.heap.size + 1) (w.heap.size + 1) s2 2) => (show Calls Try.prog 94 #[.pointer (some ⟨w.heap.size + 1, 0, none⟩), .int .i64 1] W fun e w' => e = .returned (.int .i64 (F : Int)) ∧ Rin w' (w.heap.size + 1) (w.heap.size + 1) s3 3 ∧ W.grownBy w' (some (w.heap.size + 1)) by rw [hF, hs3]; exact rnum_any h 1 1 rfl (by omega) (by omega) (by omega)))
  have C4 := Lib.hid (fun (W : World) (h : Rin W (w.heap.size + 1) (w.heap.size + 1) s3 3) => (show Calls Try.prog 93 #[.pointer (some ⟨w.heap.size + 1, 0, none⟩)] W fun e w' => e = .returned (.agg (C.map b8).toArray) ∧ Rin w' (w.heap.size + 1) (w.heap.size + 1) s4 4 ∧ W.grownBy w' (some (w.heap.size + 1)) by rw [hC, hs4]; exact rsum_any h (by omega) (by omega)))
  have C5 := Lib.hid (fun (W : World) (h : Rin W (w.heap.size + 1) (w.heap.size + 1) s4 4) => (show Calls Try.prog 94 #[.pointer (some ⟨w.heap.size + 1, 0, none⟩), .int .i64 1] W fun e w' => e = .returned (.int .i64 (N : Int)) ∧ Rin w' (w.heap.size + 1) (w.heap.size + 1) s4b 5 ∧ W.grownBy w' (some (w.heap.size + 1)) by rw [hN, hs4b]; exact rnum_any h 1 1 rfl (by omega) (by omega) (by omega)))
  have C6 := Lib.hid (fun (W : World) (t : St) (h : Rin W (w.heap.size + 1) (w.heap.size + 1) t 0) (ht : t.1.length ≤ 10000000) => (show Calls Try.prog 92 #[.pointer (some ⟨w.heap.size + 1, 0, none⟩)] W fun e w' => ∃ x : PropT, e = .returned (.agg x.cells.toArray) ∧ OwnPEl w' W.heap.size x ∧ x.v = (pProp t).1 ∧ Rin w' (w.heap.size + 1) (w.heap.size + 1) (pProp t).2 16 ∧ W.grownBy w' (some (w.heap.size + 1)) from (rprop_any h ht (by omega)).mono fun e w' ⟨A, c, h1, h2, h3, h4⟩ => ⟨⟨(pProp t).1, A, c⟩, h1, ⟨by show (pProp t).1.Ok; rw [pProp]; exact prV_ok _, h2, by show (pProp t).1.leaf.um.length ≤ 300; rw [pProp]; rw [prV_leaf]; have := (prLeaf_ok (prK t) (prS5 t)).2; omega⟩, rfl, h3, h4⟩))
  have C7 := Lib.hid (fun (W : World) (h : Rin W (w.heap.size + 1) (w.heap.size + 1) s5 30) => (show Calls Try.prog 95 #[.pointer (some ⟨w.heap.size + 1, 0, none⟩)] W fun e w' => ∃ p : PathT, e = .returned (.agg p.cells.toArray) ∧ p.leaf = xl ∧ p.steps.map StepT.v = LS ∧ Own cI w' W.heap.size 3 (.slice p.A p.leaf.um.length p.c) p.leaf.um ∧ OwnS w' W.heap.size (.slice p.As p.steps.length p.cs) p.steps ∧ Rin w' (w.heap.size + 1) (w.heap.size + 1) s7 50 ∧ W.grownBy w' (some (w.heap.size + 1)) by rw [hxl, hLS, hs7, hs6]; exact rpath_any h (by omega) (by omega)))
  have C8 := Lib.hid (fun (W : World) (h : Rin W (w.heap.size + 1) (w.heap.size + 1) s7 50) => (show Calls Try.prog 93 #[.pointer (some ⟨w.heap.size + 1, 0, none⟩)] W fun e w' => e = .returned (.agg (J.map b8).toArray) ∧ Rin w' (w.heap.size + 1) (w.heap.size + 1) s8 51 ∧ W.grownBy w' (some (w.heap.size + 1)) by rw [hJ, hs8]; exact rsum_any h (by omega) (by omega)))
  have C9 := Lib.hid (fun (W : World) (h : Rin W (w.heap.size + 1) (w.heap.size + 1) s8 51) => (show Calls Try.prog 96 #[.pointer (some ⟨w.heap.size + 1, 0, none⟩)] W fun e w' => e = .returned (.agg (Y.map b8).toArray) ∧ Rin w' (w.heap.size + 1) (w.heap.size + 1) s9 52 ∧ W.grownBy w' (some (w.heap.size + 1)) by rw [hY, hs9]; exact rwide_any h (by omega) (by omega)))
  have HLL := Lib.hid (show pMany pProp N s4b = (LP, s5) by rw [hLP, hs5])
  have GL := Lib.hid Gl
  have CL := Lib.hid Cl
  have JL := Lib.hid Jl
  have YL := Lib.hid Yl
  have XOk := Lib.hid xok
  have XUm := Lib.hid xum
  have HBu := Lib.hid (built_rComm G Gl)
  have HF := Lib.hid (rin_new2 (c := c) zerosCommit 82 hr hB' hn hnc)
  have HS0 := Lib.hid hs0
  clear hr hn hs0 l0 hG hs1 ls1 hE hs2 ls2 hF hs3 ls3 hC hs4 ls4 hN hs4b hLP hs5 ls5 hxl hs6 ls6 hLS hs7 ls7 hJ hs8 ls8 hY hs9 ls9 Gl Cl Jl Yl e5 hpp hp9 hV hq xok xum
  go_enter Try.func43, Try.ntmps43
  go_wp2_with fail
  generalize hW1 : World.alloc (World.alloc w _) _ = w1
  obtain ⟨hp1, he1, hb1, hz1'⟩ := HF.out w1 hW1
  rw [← HS0.out] at he1
  have hz1' : w.heap.size + 2 ≤ w1.heap.size := by omega
  clear hW1 HF
  have HP1 := Lib.hid hp1
  have HE1 := Lib.hid he1
  have HB1 := Lib.hid hb1
  clear hp1 he1 hb1
  refine (C1.out _ HE1.out).mono ?_
  rintro e w2 ⟨rfl, he2, hg2⟩
  have HE2 := Lib.hid he2
  have HP2 := Lib.hid (HP1.out.grown hg2 (by intro e; have := Option.some.inj e; omega))
  have HB2 := Lib.hid (HB1.out.trans (below_grown hg2 (by omega) (by omega)) : Below w.heap.size w w2)
  have hz2' := Nat.le_trans hz1' hg2.size
  clear he2 HE1 HP1 HB1
  clear hg2 C1
  have HXl := Lib.hid (show (cmC G 0 0 zero32 (.slice none 0 0) zPathL zero32 zSig).length = 263 by simp [cmC, GL.out, zero32_len, zPathL_len, zSig])
  go_wp2_with (first
    | (refine wpList_build_at rfl 82 [(0, .tmp 14)] rfl _ _ rfl HBu.out ?_)
    | (refine wpList_store_blk rfl 82 _ _ rfl w2.heap.size rfl (cmC G 0 0 zero32 (.slice none 0 0) zPathL zero32 zSig) rfl _ _ (Blk.new w2 82 zerosCommit) (by rw [zerosCommit_len, HXl.out]) (by rw [HXl.out]; exact infoCommit) (cmC_one _ _ _ _ _ rfl _ (pathL_one _ _ _ _ rfl) _ _) ?_; intro w3 hp3 hg3; have HX3 := Lib.hid hp3; have HG3 := Lib.hid hg3; clear hp3 hg3))
  have hb3 : Below w2.heap.size w2 w3 := below_box HG3.out
  obtain ⟨gx, hgx⟩ : ∃ gx, gx = w2.heap.size := ⟨_, rfl⟩
  have hgx2 : w.heap.size + 2 ≤ gx := by omega
  have HE3 := Lib.hid (HE2.out.below hb3 (Nat.le_refl _))
  have HP3 := Lib.hid (HP2.out.below hb3 (by omega))
  have HB3 := Lib.hid (HB2.out.trans (hb3.mono (by omega)))
  have hz3' := Nat.le_trans hz2' hb3.size
  rw [← hgx] at HX3 ⊢
  have hzx3 : gx + 1 ≤ w3.heap.size := by have := HX3.out.lt; omega
  clear hb3 HG3 HE2 HP2 HB2 hgx HXl HBu
  refine (C2.out _ HE3.out).mono ?_
  rintro e w4 ⟨rfl, he4, hg4⟩
  have HX4 := Lib.hid (HX3.out.grown hg4 (by intro e; have := Option.some.inj e; omega))
  have hzx4 := Nat.le_trans hzx3 hg4.size
  clear HX3
  have HE4 := Lib.hid he4
  have HP4 := Lib.hid (HP3.out.grown hg4 (by intro e; have := Option.some.inj e; omega))
  have HB4 := Lib.hid (HB3.out.trans (below_grown hg4 (by omega) (by omega)) : Below w.heap.size w w4)
  have hz4' := Nat.le_trans hz3' hg4.size
  clear he4 HE3 HP3 HB3
  clear hg4 C2
  have c1 := HX4.out.one (pre := G.map b8) (post := .int .i64 0 :: (zero32.map b8 ++ (.slice none 0 0 :: (zPathL ++ (zero32.map b8 ++ zSig.map b8))))) (u := .int .i64 0) (o := 32) (by simp [cmC]) (by simp [GL.out])
  have f1 := HX4.out.frozen 32
  have hx5 := (HX4.out.put_one (pre := G.map b8) (post := .int .i64 0 :: (zero32.map b8 ++ (.slice none 0 0 :: (zPathL ++ (zero32.map b8 ++ zSig.map b8))))) (u := .int .i64 0) (o := 32) (by simp [cmC]) (by simp [GL.out]) (.int .i64 (E : Int))).cast (show _ = cmC G E 0 zero32 (.slice none 0 0) zPathL zero32 zSig by simp [cmC])
  have hg5 := grownBy_set w4 gx 32 (.int .i64 (E : Int))
  go_wp2_with fail
  generalize w4.setCell ⟨gx, 32, none⟩ (.int .i64 (E : Int)) = w5 at hx5 hg5 ⊢
  have HX5 := Lib.hid hx5
  have HE5 := Lib.hid (HE4.out.grown hg5 (by omega) (by omega))
  have HP5 := Lib.hid (HP4.out.grown hg5 (by intro e; have := Option.some.inj e; omega))
  have HB5 := Lib.hid (HB4.out.trans (below_grown hg5 (by omega) (by omega)) : Below w.heap.size w w5)
  have hz5' := Nat.le_trans hz4' hg5.size
  have hzx5 := Nat.le_trans hzx4 hg5.size
  clear hx5 HE4 HP4 HB4 HX4
  clear c1 f1 hg5
  refine (C3.out _ HE5.out).mono ?_
  rintro e w6 ⟨rfl, he6, hg6⟩
  have HX6 := Lib.hid (HX5.out.grown hg6 (by intro e; have := Option.some.inj e; omega))
  have hzx6 := Nat.le_trans hzx5 hg6.size
  clear HX5
  have HE6 := Lib.hid he6
  have HP6 := Lib.hid (HP5.out.grown hg6 (by intro e; have := Option.some.inj e; omega))
  have HB6 := Lib.hid (HB5.out.trans (below_grown hg6 (by omega) (by omega)) : Below w.heap.size w w6)
  have hz6' := Nat.le_trans hz5' hg6.size
  clear he6 HE5 HP5 HB5
  clear hg6 C3
  have c1 := HX6.out.one (pre := G.map b8 ++ [.int .i64 (E : Int)]) (post := zero32.map b8 ++ (.slice none 0 0 :: (zPathL ++ (zero32.map b8 ++ zSig.map b8)))) (u := .int .i64 0) (o := 33) (by simp [cmC]) (by simp [GL.out])
  have f1 := HX6.out.frozen 33
  have hx7 := (HX6.out.put_one (pre := G.map b8 ++ [.int .i64 (E : Int)]) (post := zero32.map b8 ++ (.slice none 0 0 :: (zPathL ++ (zero32.map b8 ++ zSig.map b8)))) (u := .int .i64 0) (o := 33) (by simp [cmC]) (by simp [GL.out]) (.int .i64 (F : Int))).cast (show _ = cmC G E F zero32 (.slice none 0 0) zPathL zero32 zSig by simp [cmC])
  have hg7 := grownBy_set w6 gx 33 (.int .i64 (F : Int))
  go_wp2_with fail
  generalize w6.setCell ⟨gx, 33, none⟩ (.int .i64 (F : Int)) = w7 at hx7 hg7 ⊢
  have HX7 := Lib.hid hx7
  have HE7 := Lib.hid (HE6.out.grown hg7 (by omega) (by omega))
  have HP7 := Lib.hid (HP6.out.grown hg7 (by intro e; have := Option.some.inj e; omega))
  have HB7 := Lib.hid (HB6.out.trans (below_grown hg7 (by omega) (by omega)) : Below w.heap.size w w7)
  have hz7' := Nat.le_trans hz6' hg7.size
  have hzx7 := Nat.le_trans hzx6 hg7.size
  clear hx7 HE6 HP6 HB6 HX6
  clear c1 f1 hg7
  refine (C4.out _ HE7.out).mono ?_
  rintro e w8 ⟨rfl, he8, hg8⟩
  have HX8 := Lib.hid (HX7.out.grown hg8 (by intro e; have := Option.some.inj e; omega))
  have hzx8 := Nat.le_trans hzx7 hg8.size
  clear HX7
  have HE8 := Lib.hid he8
  have HP8 := Lib.hid (HP7.out.grown hg8 (by intro e; have := Option.some.inj e; omega))
  have HB8 := Lib.hid (HB7.out.trans (below_grown hg8 (by omega) (by omega)) : Below w.heap.size w w8)
  have hz8' := Nat.le_trans hz7' hg8.size
  clear he8 HE7 HP7 HB7
  clear hg8 C4
  go_wp2_with (refine wpList_store_piece rfl 23 _ _ rfl gx 34 rfl (C.map b8) rfl 82 _ (G.map b8 ++ [.int .i64 (E : Int), .int .i64 (F : Int)]) (zero32.map b8) (.slice none 0 0 :: (zPathL ++ (zero32.map b8 ++ zSig.map b8))) HX8.out (by simp [cmC]) (by simp [GL.out]) (by rw [List.length_map, List.length_map, CL.out]; rfl) (by rw [List.length_map, CL.out]; exact infoSumS) (b8s_one _) ?_; intro w9 hp9 hg9; have hx9 := hp9.cast (show _ = cmC G E F C (.slice none 0 0) zPathL zero32 zSig by simp [cmC]); clear hp9)
  have HX9 := Lib.hid hx9
  have HE9 := Lib.hid (HE8.out.grown hg9 (by omega) (by omega))
  have HP9 := Lib.hid (HP8.out.grown hg9 (by intro e; have := Option.some.inj e; omega))
  have HB9 := Lib.hid (HB8.out.trans (below_grown hg9 (by omega) (by omega)) : Below w.heap.size w w9)
  have hz9' := Nat.le_trans hz8' hg9.size
  have hzx9 := Nat.le_trans hzx8 hg9.size
  clear hx9 HE8 HP8 HB8 HX8
  clear hg9
  refine (C5.out _ HE9.out).mono ?_
  rintro e w10 ⟨rfl, he10, hg10⟩
  have HX10 := Lib.hid (HX9.out.grown hg10 (by intro e; have := Option.some.inj e; omega))
  have hzx10 := Nat.le_trans hzx9 hg10.size
  clear HX9
  have HE10 := Lib.hid he10
  have HP10 := Lib.hid (HP9.out.grown hg10 (by intro e; have := Option.some.inj e; omega))
  have HB10 := Lib.hid (HB9.out.trans (below_grown hg10 (by omega) (by omega)) : Below w.heap.size w w10)
  have hz10' := Nat.le_trans hz9' hg10.size
  clear he10 HE9 HP9 HB9
  clear hg10 C5
  go_wp2_with fail
  go_loopw [7] (fun iv wr => ∃ (k : Nat) (ts : List PropT) (t : St) (Ap : Option Addr) (cp : Nat), k ≤ N ∧ iv = .int .i64 (k : Int) ∧ ts.length = k ∧ t.1.length ≤ 10000000 ∧ (LP, s5) = (ts.map PropT.v ++ (pMany pProp (N - k) t).1, (pMany pProp (N - k) t).2) ∧ Blk wr gx 82 (cmC G E F C (.slice Ap k cp) zPathL zero32 zSig) ∧ OwnP wr (gx + 1) (.slice Ap k cp) ts ∧ Rin wr (w.heap.size + 1) (w.heap.size + 1) t 30 ∧ Blk wr w.heap.size 82 zerosCommit ∧ Below w.heap.size w wr ∧ w.heap.size + 2 ≤ wr.heap.size ∧ gx + 1 ≤ wr.heap.size) (fun iv _ => N - (intOf iv).toNat)
  case atStart => exact ⟨0, [], s4b, none, 0, by omega, rfl, rfl, by omega, by rw [Nat.sub_zero, List.map_nil, List.nil_append, HLL.out], HX10.out, OwnP.nil_ _ _, HE10.out.more (by omega), HP10.out, HB10.out, hz10', hzx10⟩
  case round =>
    obtain ⟨k, ts, t, Ap, cp, hk, rfl, hal, htl, hLt, hx, ho, he, hp, hb, hzr', hzxr⟩ := hrel
    clear HX10 HE10 HP10 HB10 hz10' hzx10 HLL
    obtain ⟨q1, cq, fq, hqK, hqb⟩ := he.q
    have HAl := Lib.hid hal
    by_cases hlt2 : k < N
    · have hlt' : (k : Int) < (N : Int) := by omega
      by_cases hbd : t.2 = true
      · have hq0 : q1 ≠ 0 := fun h => by rw [hqb.2 h] at hbd; cases hbd
        have hqi : ((q1 : Int) == 0) = false := by simp; omega
        have hqp : (q1 = 0) = False := by simp [hq0]
        have h := hLt
        rw [pMany_bad pProp _ hbd, List.append_nil] at h
        injection h with h1 h2
        have HLv := Lib.hid h1.symm
        have he : Rin wr (w.heap.size + 1) (w.heap.size + 1) s5 30 := by rw [h2]; exact he
        clear hLt hbd hqb hq0 hal h1 h2
        have HXr := Lib.hid hx
        have HOr := Lib.hid ho
        have HEr := Lib.hid he
        have HPr := Lib.hid hp
        have HBr := Lib.hid hb
        clear hx ho he hp hb
        go_wp2_with fail
        refine (C7.out _ HEr.out).mono ?_
        rintro e wa ⟨p, rfl, hpl, hps, hu, hst, hea, hga⟩
        have HXa := Lib.hid (HXr.out.grown hga (by intro e; have := Option.some.inj e; omega))
        have HOa := Lib.hid (HOr.out.kept hga (by omega))
        have HPa := Lib.hid (HPr.out.grown hga (by intro e; have := Option.some.inj e; omega))
        have HBa := Lib.hid (HBr.out.trans (below_grown hga (by omega) (by omega)) : Below w.heap.size w wa)
        have hza' := Nat.le_trans hzr' hga.size
        have hzxa := Nat.le_trans hzxr hga.size
        have HEa := Lib.hid hea
        have HUa := Lib.hid hu
        have HSa := Lib.hid hst
        have HPl := Lib.hid hpl
        have HPs := Lib.hid hps
        have hpok : p.leaf.Ok := by rw [hpl]; exact XOk.out
        have HPok := Lib.hid hpok
        have HPc := Lib.hid (pathC_len hpok)
        clear hea hu hst hga hpl hps hpok HXr HOr HEr HPr HBr C7
        go_wp2_with (refine wpList_store_piece rfl 80 _ _ rfl gx 67 rfl p.cells rfl 82 _ (G.map b8 ++ (.int .i64 (E : Int) :: .int .i64 (F : Int) :: (C.map b8 ++ [.slice Ap k cp]))) zPathL (zero32.map b8 ++ zSig.map b8) HXa.out (by simp [cmC]) (by simp [GL.out, CL.out]) (by rw [zPathL_len, HPc.out]) (by rw [HPc.out]; exact infoPath100) (pathC_one _) ?_; intro wb hpb hgb; have hxb := hpb.cast (show _ = cmC G E F C (.slice Ap k cp) p.cells zero32 zSig by simp [cmC]); clear hpb)
        have HOb := Lib.hid (HOa.out.blk HXa.out hgb)
        have HUb := Lib.hid (um_blk HUa.out HXa.out hgb)
        have HSb := Lib.hid (HSa.out.blk HXa.out hgb)
        have heb := HEa.out.grown hgb (by omega) (by omega)
        have HPb := Lib.hid (HPa.out.grown hgb (by intro e; have := Option.some.inj e; omega))
        have HBb := Lib.hid (HBa.out.trans (below_grown hgb (by omega) (by omega)) : Below w.heap.size w wb)
        have hzb' := Nat.le_trans hza' hgb.size
        have hzxb := Nat.le_trans hzxa hgb.size
        have HXb := Lib.hid hxb
        have HEb := Lib.hid heb
        clear hgb hxb heb HEa HPa HBa HXa HOa HUa HSa
        refine (C8.out _ HEb.out).mono ?_
        rintro e wc ⟨rfl, hec, hgc⟩
        have HXc := Lib.hid (HXb.out.grown hgc (by intro e; have := Option.some.inj e; omega))
        have HOc := Lib.hid (HOb.out.kept hgc (by omega))
        have HUc := Lib.hid (HUb.out.kept hgc (.inr (fun e => by have := (HUb.out.lt _ e).1; omega)))
        have HSc := Lib.hid (HSb.out.kept hgc (by omega))
        have HPc' := Lib.hid (HPb.out.grown hgc (by intro e; have := Option.some.inj e; omega))
        have HBc := Lib.hid (HBb.out.trans (below_grown hgc (by omega) (by omega)) : Below w.heap.size w wc)
        have hzc' := Nat.le_trans hzb' hgc.size
        have hzxc := Nat.le_trans hzxb hgc.size
        have HEc := Lib.hid hec
        clear hec hgc HXb HOb HUb HSb HPb HBb HEb C8
        go_wp2_with (refine wpList_store_piece rfl 23 _ _ rfl gx 167 rfl (J.map b8) rfl 82 _ (G.map b8 ++ (.int .i64 (E : Int) :: .int .i64 (F : Int) :: (C.map b8 ++ (.slice Ap k cp :: p.cells)))) (zero32.map b8) (zSig.map b8) HXc.out (by simp [cmC]) (by simp [GL.out, CL.out, HPc.out]) (by rw [List.length_map, List.length_map, JL.out]; rfl) (by rw [List.length_map, JL.out]; exact infoSumS) (b8s_one _) ?_; intro wd hpd hgd; have hxd := hpd.cast (show _ = cmC G E F C (.slice Ap k cp) p.cells J zSig by simp [cmC]); clear hpd)
        have HOd := Lib.hid (HOc.out.blk HXc.out hgd)
        have HUd := Lib.hid (um_blk HUc.out HXc.out hgd)
        have HSd := Lib.hid (HSc.out.blk HXc.out hgd)
        have HEd := Lib.hid (HEc.out.grown hgd (by omega) (by omega))
        have HPd := Lib.hid (HPc'.out.grown hgd (by intro e; have := Option.some.inj e; omega))
        have HBd := Lib.hid (HBc.out.trans (below_grown hgd (by omega) (by omega)) : Below w.heap.size w wd)
        have hzd' := Nat.le_trans hzc' hgd.size
        have hzxd := Nat.le_trans hzxc hgd.size
        have HXd := Lib.hid hxd
        clear hgd hxd HXc HOc HUc HSc HPc' HBc HEc
        refine (C9.out _ HEd.out).mono ?_
        rintro e we ⟨rfl, hee, hge⟩
        have HXe := Lib.hid (HXd.out.grown hge (by intro e; have := Option.some.inj e; omega))
        have HOe := Lib.hid (HOd.out.kept hge (by omega))
        have HUe := Lib.hid (HUd.out.kept hge (.inr (fun e => by have := (HUd.out.lt _ e).1; omega)))
        have HSe := Lib.hid (HSd.out.kept hge (by omega))
        have HPe := Lib.hid (HPd.out.grown hge (by intro e; have := Option.some.inj e; omega))
        have HBe := Lib.hid (HBd.out.trans (below_grown hge (by omega) (by omega)) : Below w.heap.size w we)
        have hze' := Nat.le_trans hzd' hge.size
        have hzxe := Nat.le_trans hzxd hge.size
        have HEe := Lib.hid hee
        clear hee hge HXd HOd HUd HSd HPd HBd HEd C9
        have HLm := Lib.hid (show (cmC G E F C (.slice Ap k cp) p.cells J Y).length = 263 by simp [cmC, GL.out, CL.out, JL.out, YL.out, HPc.out])
        go_wp2_with (first
          | (refine wpList_store_piece rfl 62 _ _ rfl gx 199 rfl (Y.map b8) rfl 82 _ (G.map b8 ++ (.int .i64 (E : Int) :: .int .i64 (F : Int) :: (C.map b8 ++ (.slice Ap k cp :: (p.cells ++ J.map b8))))) (zSig.map b8) [] HXe.out (by simp [cmC]) (by simp [GL.out, CL.out, HPc.out, JL.out]) (by rw [List.length_map, List.length_map, YL.out]; rfl) (by rw [List.length_map, YL.out]; exact infoWideS) (b8s_one _) ?_; intro wf hpf hgf; have HXf := Lib.hid (hpf.cast (show _ = cmC G E F C (.slice Ap k cp) p.cells J Y by simp [cmC])); have HGf := Lib.hid hgf; clear hpf hgf)
          | (refine wpList_load_mid rfl 82 (.tmp 5) rfl gx 0 rfl (cmC G E F C (.slice Ap k cp) p.cells J Y) _ (Blk.whole HXf.out) Try.underlying82 rfl (by rw [HLm.out]; exact infoCommit) ?_))
        have HT := Lib.hid (show OwnC wf (gx + 1) ⟨G, E, F, C, ts, Ap, cp, p, J, Y⟩ from
          ⟨GL.out, CL.out, JL.out, YL.out, wf_small (by omega), wf_small (by omega), by
            show OwnP wf (gx + 1) (.slice Ap ts.length cp) ts
            rw [HAl.out]; exact HOe.out.blk HXe.out HGf.out, by show ts.length ≤ 255; rw [HAl.out]; omega, HPok.out,
            (um_blk HUe.out HXe.out HGf.out).less (by omega), by show p.leaf.um.length ≤ 300; rw [HPl.out]; exact XUm.out, (HSe.out.blk HXe.out HGf.out).less (by omega), by
            show p.steps.length ≤ 255
            rw [← List.length_map (f := StepT.v), HPs.out]; exact hLSl⟩)
        have HTv := Lib.hid (show (⟨G, E, F, C, ts, Ap, cp, p, J, Y⟩ : CommT).v = V by rw [HV.out]; unfold CommT.v; simp only [HPl.out, HPs.out, HLv.out])
        have HEf := Lib.hid (HEe.out.grown HGf.out (by omega) (by omega))
        have HPf := Lib.hid (HPe.out.grown HGf.out (by intro e; have := Option.some.inj e; omega))
        have HBf := Lib.hid (HBe.out.trans (below_grown HGf.out (by omega) (by omega)) : Below w.heap.size w wf)
        have hzf' := Nat.le_trans hze' HGf.out.size
        have hzxf := Nat.le_trans hzxe HGf.out.size
        have hput := refPutComm_any ⟨G, E, F, C, ts, Ap, cp, p, J, Y⟩ HT.out.rd (Nat.le_refl _)
        rw [commBad_X, commB_X, HTv.out, commC_cm, HAl.out] at hput
        obtain ⟨rb, hrb⟩ : ∃ rb, rb = (commBadX V || decide (65536 < (commBX V).length)) := ⟨_, rfl⟩
        obtain ⟨X, hX⟩ : ∃ X, X = (if rb = true then [] else commBX V) := ⟨_, rfl⟩
        rw [← hrb, ← hX] at hput
        have HPut := Lib.hid hput
        have HQ' := Lib.hid (show chkGood s9.2 s9.1 bs rb X = q by rw [hX, chk_if, ← HQ.out, hrb])
        clear hput hrb hX HQ HEe HPe HBe HOe HUe HSe HXe HGf HT HTv
        refine HPut.out.mono ?_
        rintro e wg ⟨vg, rfl, hog, hbg⟩
        obtain ⟨lg, hlg⟩ : ∃ l, X.length = l := ⟨_, rfl⟩
        obtain ⟨Ag, cg, rfl, hrg, -, -, -⟩ := hog.shape' hlg
        have hsg : wf.heap.size ≤ wg.heap.size := hbg.size
        have HXg := Lib.hid (HXf.out.below hbg (by omega))
        have HPg := Lib.hid (HPf.out.below hbg (by omega))
        have HBg := Lib.hid (HBf.out.trans (hbg.mono (by omega)))
        have hwh := rwhole_any (HEf.out.below hbg (Nat.le_refl _)) c (HR.out.below (HBg.out.mono hB')) HN.out cg hrg hlg rb
        rw [HQ'.out] at hwh
        have HW := Lib.hid hwh
        clear hwh hlg hog hrg hbg HPut HEf HBf HXf HPf
        go_wp2_with fail
        refine HW.out.mono ?_
        rintro e wh ⟨rfl, rfl⟩
        cases q with
        | true =>
          go_wp2_with (first
            | (refine wpList_load_mid rfl 82 (.tmp 5) rfl gx 0 rfl (cmC G E F C (.slice Ap k cp) p.cells J Y) _ (Blk.whole HXg.out) Try.underlying82 rfl (by rw [HLm.out]; exact infoCommit) ?_)
            | (refine wpList_store_blk rfl 82 _ _ rfl w.heap.size rfl (cmC G E F C (.slice Ap k cp) p.cells J Y) rfl _ _ HPg.out (by rw [zerosCommit_len, HLm.out]) (by rw [HLm.out]; exact infoCommit) (cmC_one _ _ _ _ _ rfl _ (pathC_one _) _ _) ?_; intro wz hpz hgz; have HPz := Lib.hid hpz; have HGz := Lib.hid hgz; clear hpz hgz))
          refine bodyPost_ret (v := .tuple #[.agg (cmC G E F C (.slice Ap k cp) p.cells J Y).toArray, .bool true]) (results_blk_tmp (g := w.heap.size) rfl _ _ _ _ _ _ rfl rfl HPz.out Try.underlying82 rfl (by rw [HLm.out]; exact infoCommit)) rfl ?_
          exact ⟨HBg.out.grown HGz.out (by omega) (fun k e => by cases e; omega), _, rfl, HLm.out, cmC_one _ _ _ _ _ rfl _ (pathC_one _) _ _⟩
        | false =>
          go_wp2_with (first
            | (refine wpList_build_at rfl 82 [] rfl _ _ rfl built_zComm ?_)
            | (refine wpList_store_blk rfl 82 _ _ rfl w.heap.size rfl zerosCommit rfl _ _ HPg.out rfl (by rw [zerosCommit_len]; exact infoCommit) zerosCommit_one ?_; intro wz hpz hgz; have HPz := Lib.hid hpz; have HGz := Lib.hid hgz; clear hpz hgz))
          refine bodyPost_ret (v := .tuple #[.agg zerosCommit.toArray, .bool false]) (results_blk_tmp (g := w.heap.size) rfl _ _ _ _ _ _ rfl rfl HPz.out Try.underlying82 rfl (by rw [zerosCommit_len]; exact infoCommit)) rfl ?_
          exact ⟨HBg.out.grown HGz.out (by omega) (fun k e => by cases e; omega), _, rfl, zerosCommit_len, zerosCommit_one⟩
      · have hbd' : t.2 = false := by simpa using hbd
        obtain rfl : q1 = 0 := hqb.1 hbd'
        have HEd := Lib.hid ((he.none_ hbd').below (Below.refl _ wr).drew (Nat.le_refl _))
        have hx' : Blk wr.drew gx 82 (cmC G E F C (.slice Ap k cp) zPathL zero32 zSig) := hx
        have HC66 := Lib.hid (show ∀ v : Value, (cmC G E F C v zPathL zero32 zSig)[66]? = some v from fun v => by
          rw [cmC, List.getElem?_append_right (by simp [GL.out])]
          simp only [List.length_map, GL.out]
          show (Value.int .i64 (F : Int) :: (C.map b8 ++ (v :: (zPathL ++ (zero32.map b8 ++ zSig.map b8)))))[33]? = some v
          show (C.map b8 ++ (v :: (zPathL ++ (zero32.map b8 ++ zSig.map b8))))[32]? = some v
          rw [List.getElem?_append_right (by simp [CL.out])]
          simp [CL.out])
        have HS66 := Lib.hid (show ∀ v v' : Value, (cmC G E F C v zPathL zero32 zSig).set 66 v' = cmC G E F C v' zPathL zero32 zSig from fun v v' => by
          have e1 : cmC G E F C v zPathL zero32 zSig = (G.map b8 ++ (.int .i64 (E : Int) :: .int .i64 (F : Int) :: C.map b8)) ++ (v :: (zPathL ++ (zero32.map b8 ++ zSig.map b8))) := by simp [cmC]
          have e2 : (G.map b8 ++ (.int .i64 (E : Int) :: .int .i64 (F : Int) :: C.map b8)).length = 66 := by simp [GL.out, CL.out]
          rw [e1, List.set_append_right _ _ (by rw [e2]; exact Nat.le_refl _), e2]
          simp [cmC])
        have c66 : wr.drew.cell? ⟨gx, 66, none⟩ = some (.slice Ap k cp) := hx'.cell 66 (HC66.out _)
        have HXr := Lib.hid hx'
        have HOr := Lib.hid (show OwnP wr.drew (gx + 1) (.slice Ap k cp) ts from ho.below (Below.refl _ wr).drew (Nat.le_refl _))
        have HPr := Lib.hid (show Blk wr.drew w.heap.size 82 zerosCommit from hp)
        have HBr := Lib.hid (show Below w.heap.size w wr.drew from hb.drew)
        have HLt := Lib.hid hLt
        have HBd := Lib.hid hbd'
        clear hx hx' ho hp hb hLt he hqb hal hbd hbd'
        go_wp2_with fail
        refine wp_region_Y (by kernel_rfl) (fun w' : World => w'.cell? ⟨gx, 66, none⟩ = some (.slice Ap k cp)) 7 ?_
        have hS : (fun w' : World => w'.cell? ⟨gx, 66, none⟩ = some (.slice Ap k cp)) wr.drew := c66
        refine wpAnyY_pure (i := 0) (v := .pointer (some ⟨gx, 66, none⟩)) rfl (by kernel_rfl) (by kernel_rfl) (by kernel_rfl) (by kernel_rfl) (fun _ _ _ h => h) (Or.inl ⟨by rfl, ?_⟩) hS ?_
        · intro w' hw'
          go_simp
        try simp only [Act.put, List.setIfInBounds_toArray, List.set_cons_zero, List.set_cons_succ]
        refine wpAnyY_take (i := 1) (v := .slice Ap k cp) rfl (by kernel_rfl) (by kernel_rfl) (by kernel_rfl) (by kernel_rfl) (by kernel_rfl) (fun _ _ _ h => h) (Or.inl ⟨by rfl, ?_⟩) hS ?_
        · intro w' hw'
          go_simp
        try simp only [Act.put, List.setIfInBounds_toArray, List.set_cons_zero, List.set_cons_succ]
        refine wpAnyY_pure (i := 2) (v := .pointer (some ⟨w.heap.size + 1, 0, none⟩)) rfl (by kernel_rfl) (by kernel_rfl) (by kernel_rfl) (by kernel_rfl) (fun _ _ _ h => h) (Or.inl ⟨by rfl, ?_⟩) hS ?_
        · intro w' hw'
          go_simp
        try simp only [Act.put, List.setIfInBounds_toArray, List.set_cons_zero, List.set_cons_succ]
        refine wpAnyY_one (i := 3) (by kernel_rfl) rfl (fun K' hK => ?_)
        go_simp
        go_at_call 92
        refine (C6.out _ t HEd.out htl).mono ?_
        rintro e wa ⟨x, rfl, hxo, hxv, hea, hga⟩
        have HEa := Lib.hid hea
        have HXa := Lib.hid (HXr.out.grown hga (by intro e; have := Option.some.inj e; omega))
        have HOa := Lib.hid (HOr.out.kept hga (by omega))
        have HPa := Lib.hid (HPr.out.grown hga (by intro e; have := Option.some.inj e; omega))
        have HBa := Lib.hid (HBr.out.trans (below_grown hga (by omega) (show w.heap.size ≤ wr.heap.size by omega)) : Below w.heap.size w wa)
        have hza' : w.heap.size + 2 ≤ wa.heap.size := Nat.le_trans hzr' hga.size
        have hzxa : gx + 1 ≤ wa.heap.size := Nat.le_trans hzxr hga.size
        have HXo := Lib.hid hxo
        have HXv := Lib.hid hxv
        have HXl := Lib.hid (show x.cells.length = 263 from propC_len hxo.ok _ _)
        have HX1 := Lib.hid (show ∀ u ∈ x.cells, u.oneCell' = true from propC_one _ _ _)
        have hxb : wr.drew.heap.size = wr.heap.size := rfl
        have c66a : wa.cell? ⟨gx, 66, none⟩ = some (.slice Ap k cp) := HXa.out.cell 66 (HC66.out _)
        have c66b : ∀ o, (wa.alloc o).cell? ⟨gx, 66, none⟩ = some (.slice Ap k cp) := fun o => (HXa.out.alloc o).cell 66 (HC66.out _)
        have HRow := Lib.hid (show (wa.alloc (.cells x.cells.toArray 71)).ownsRow (gx + 1) 71 263 (.slice Ap k cp) k (ts.flatMap PropT.cells) by
          have h := rowS_below HOa.out.row ((Below.refl wa.heap.size wa).alloc (Nat.le_refl _) (.cells x.cells.toArray 71)) (Nat.le_refl _)
          rw [HAl.out] at h
          exact h)
        clear hxo hxv hea hga HEd HXr HOr HPr HBr c66 hxb
        refine hK _ _ (fun _ => c66a) ?_
        clear hK K'
        try simp only [Act.put, List.setIfInBounds_toArray, List.set_cons_zero, List.set_cons_succ]
        refine wpAnyY_one (i := 4) (by kernel_rfl) rfl (fun K' hK => ?_)
        refine step_box_slice rfl 77 71 (.tmp 42) rfl i0 _ 263 x.cells.toArray rfl (by simpa using HXl.out) (by omega) (by omega) Try.underlying77 hi0 hz0 hz1 zPropC_len ?_
        refine hK _ _ (fun _ => c66b _) ?_
        clear hK K'
        try simp only [Act.put, List.setIfInBounds_toArray, List.set_cons_zero, List.set_cons_succ]
        refine wpAnyY_one (i := 5) (by kernel_rfl) rfl (fun K' hK => ?_)
        refine step_append_row rfl (.tmp 40) (.tmp 43) 77 rfl 263 (by omega) (gx + 1) 71 i0 _ 328 Try.underlying77 hi0 hz0 hz1 hz2 zPropC_len _ k (ts.flatMap PropT.cells) rfl HRow.out (wa.heap.size + 1) (some ⟨wa.heap.size, 0, none⟩) 1 1 x.cells rfl HXl.out (by omega) (rdV_new wa 71 x.cells) HX1.out (by simp only [maxLen]; omega) (by omega) (by rw [World.size_alloc]; omega) ?_
        intro v7 w7 hown7 hg7 hbb7
        have hb7 : Below (gx + 1) wa w7 := hbb7 (gx + 1) wa (Nat.le_refl _) ((Below.refl _ wa).alloc (by omega) _)
        obtain ⟨A7, c7, rfl, -, -, -, -⟩ := rowS_shape hown7
        have hx7 := HXa.out.below hb7 (by omega)
        have hum : ∀ t', OwnPEl wa (gx + 1) t' → OwnPEl w7 (gx + 1) t' := fun t' h =>
          (h.below ((Below.refl wa.heap.size wa).alloc (Nat.le_refl _) (.cells x.cells.toArray 71)) (Nat.le_refl _)).far HRow.out hg7.by_
        have c66d := hx7.cell 66 (HC66.out _)
        have f66 := hx7.frozen 66
        have HX7 := Lib.hid hx7
        have HO7 := Lib.hid hown7
        have HU7 := Lib.hid hum
        have HB7 := Lib.hid hb7
        have HGS := Lib.hid (grownBy_set w7 gx 66 (.slice A7 (k + 1) c7))
        clear hx7 hown7 hum hb7 hg7 hbb7 c66a c66b
        refine hK _ _ (fun _ => c66d) ?_
        clear hK K'
        try simp only [Act.put, List.setIfInBounds_toArray, List.set_cons_zero, List.set_cons_succ]
        refine wpAnyY_one (i := 6) (by kernel_rfl) rfl (fun K' hK => ?_)
        go_simp
        refine hK _ _ (fun _ => c66d) ?_
        clear hK K'
        try simp only [Act.put, List.setIfInBounds_toArray, List.set_cons_zero, List.set_cons_succ]
        refine wpAnyY_one (i := 7) (by kernel_rfl) rfl (fun K' hK => ?_)
        go_simp
        refine hK _ _ (fun h => absurd rfl h) (wpAnyY_done (by kernel_rfl) ?_ _)
        clear hK K'
        go_wp2_with fail
        go_roundw
        case rel =>
          have hP7 := HPa.out.below HB7.out (by omega)
          have hE7 := HEa.out.low HB7.out (show w.heap.size + 1 < gx + 1 by omega)
          have hO7 : OwnP w7 (gx + 1) (.slice A7 (k + 1) c7) (ts ++ [x]) := ⟨by rw [PropTC_snoc, List.length_append, HAl.out]; exact HO7.out, fun t' ht' => by
            rcases List.mem_append.1 ht' with h | h
            · exact HU7.out t' (HOa.out.el t' h)
            · obtain rfl := List.mem_singleton.1 h; exact HU7.out _ (HXo.out.less (show gx + 1 ≤ wr.heap.size from hzxr))⟩
          refine ⟨k + 1, ts ++ [x], (pProp t).2, A7, c7, by omega, by go_num, by rw [List.length_append, HAl.out]; rfl, Nat.le_trans (pProp_le t) htl, ?_, (HX7.out.set_ 66 _).cast (HS66.out _ _), hO7.blk HX7.out HGS.out, (hE7.grown HGS.out (by omega) (by omega)).more (by omega), hP7.grown HGS.out (by intro e; have := Option.some.inj e; omega), ?_, Nat.le_trans (Nat.le_trans hza' HB7.out.size) HGS.out.size, Nat.le_trans (Nat.le_trans hzxa HB7.out.size) HGS.out.size⟩
          · have h := HLt.out
            rw [show N - k = (N - (k + 1)) + 1 by omega, pMany_succ pProp _ HBd.out, ← HXv.out] at h
            rw [h, List.map_append, List.append_assoc]; rfl
          · exact (HBa.out.trans (HB7.out.mono (by omega))).trans (below_grown HGS.out (by omega) (by have := HB7.out.size; omega))
        case measure => simp [intOf]; omega
    · obtain rfl : k = N := by omega
      have h := hLt
      rw [Nat.sub_self] at h
      injection h with h1 h2
      have HLv := Lib.hid (show ts.map PropT.v = LP by rw [h1]; simp [pMany])
      have he : Rin wr (w.heap.size + 1) (w.heap.size + 1) s5 30 := by rw [h2]; exact he
      clear hLt hqb hal h1 h2
      have HXr := Lib.hid hx
      have HOr := Lib.hid ho
      have HEr := Lib.hid he
      have HPr := Lib.hid hp
      have HBr := Lib.hid hb
      clear hx ho he hp hb
      go_wp2_with fail
      refine (C7.out _ HEr.out).mono ?_
      rintro e wa ⟨p, rfl, hpl, hps, hu, hst, hea, hga⟩
      have HXa := Lib.hid (HXr.out.grown hga (by intro e; have := Option.some.inj e; omega))
      have HOa := Lib.hid (HOr.out.kept hga (by omega))
      have HPa := Lib.hid (HPr.out.grown hga (by intro e; have := Option.some.inj e; omega))
      have HBa := Lib.hid (HBr.out.trans (below_grown hga (by omega) (by omega)) : Below w.heap.size w wa)
      have hza' := Nat.le_trans hzr' hga.size
      have hzxa := Nat.le_trans hzxr hga.size
      have HEa := Lib.hid hea
      have HUa := Lib.hid hu
      have HSa := Lib.hid hst
      have HPl := Lib.hid hpl
      have HPs := Lib.hid hps
      have hpok : p.leaf.Ok := by rw [hpl]; exact XOk.out
      have HPok := Lib.hid hpok
      have HPc := Lib.hid (pathC_len hpok)
      clear hea hu hst hga hpl hps hpok HXr HOr HEr HPr HBr C7
      go_wp2_with (refine wpList_store_piece rfl 80 _ _ rfl gx 67 rfl p.cells rfl 82 _ (G.map b8 ++ (.int .i64 (E : Int) :: .int .i64 (F : Int) :: (C.map b8 ++ [.slice Ap k cp]))) zPathL (zero32.map b8 ++ zSig.map b8) HXa.out (by simp [cmC]) (by simp [GL.out, CL.out]) (by rw [zPathL_len, HPc.out]) (by rw [HPc.out]; exact infoPath100) (pathC_one _) ?_; intro wb hpb hgb; have hxb := hpb.cast (show _ = cmC G E F C (.slice Ap k cp) p.cells zero32 zSig by simp [cmC]); clear hpb)
      have HOb := Lib.hid (HOa.out.blk HXa.out hgb)
      have HUb := Lib.hid (um_blk HUa.out HXa.out hgb)
      have HSb := Lib.hid (HSa.out.blk HXa.out hgb)
      have heb := HEa.out.grown hgb (by omega) (by omega)
      have HPb := Lib.hid (HPa.out.grown hgb (by intro e; have := Option.some.inj e; omega))
      have HBb := Lib.hid (HBa.out.trans (below_grown hgb (by omega) (by omega)) : Below w.heap.size w wb)
      have hzb' := Nat.le_trans hza' hgb.size
      have hzxb := Nat.le_trans hzxa hgb.size
      have HXb := Lib.hid hxb
      have HEb := Lib.hid heb
      clear hgb hxb heb HEa HPa HBa HXa HOa HUa HSa
      refine (C8.out _ HEb.out).mono ?_
      rintro e wc ⟨rfl, hec, hgc⟩
      have HXc := Lib.hid (HXb.out.grown hgc (by intro e; have := Option.some.inj e; omega))
      have HOc := Lib.hid (HOb.out.kept hgc (by omega))
      have HUc := Lib.hid (HUb.out.kept hgc (.inr (fun e => by have := (HUb.out.lt _ e).1; omega)))
      have HSc := Lib.hid (HSb.out.kept hgc (by omega))
      have HPc' := Lib.hid (HPb.out.grown hgc (by intro e; have := Option.some.inj e; omega))
      have HBc := Lib.hid (HBb.out.trans (below_grown hgc (by omega) (by omega)) : Below w.heap.size w wc)
      have hzc' := Nat.le_trans hzb' hgc.size
      have hzxc := Nat.le_trans hzxb hgc.size
      have HEc := Lib.hid hec
      clear hec hgc HXb HOb HUb HSb HPb HBb HEb C8
      go_wp2_with (refine wpList_store_piece rfl 23 _ _ rfl gx 167 rfl (J.map b8) rfl 82 _ (G.map b8 ++ (.int .i64 (E : Int) :: .int .i64 (F : Int) :: (C.map b8 ++ (.slice Ap k cp :: p.cells)))) (zero32.map b8) (zSig.map b8) HXc.out (by simp [cmC]) (by simp [GL.out, CL.out, HPc.out]) (by rw [List.length_map, List.length_map, JL.out]; rfl) (by rw [List.length_map, JL.out]; exact infoSumS) (b8s_one _) ?_; intro wd hpd hgd; have hxd := hpd.cast (show _ = cmC G E F C (.slice Ap k cp) p.cells J zSig by simp [cmC]); clear hpd)
      have HOd := Lib.hid (HOc.out.blk HXc.out hgd)
      have HUd := Lib.hid (um_blk HUc.out HXc.out hgd)
      have HSd := Lib.hid (HSc.out.blk HXc.out hgd)
      have HEd := Lib.hid (HEc.out.grown hgd (by omega) (by omega))
      have HPd := Lib.hid (HPc'.out.grown hgd (by intro e; have := Option.some.inj e; omega))
      have HBd := Lib.hid (HBc.out.trans (below_grown hgd (by omega) (by omega)) : Below w.heap.size w wd)
      have hzd' := Nat.le_trans hzc' hgd.size
      have hzxd := Nat.le_trans hzxc hgd.size
      have HXd := Lib.hid hxd
      clear hgd hxd HXc HOc HUc HSc HPc' HBc HEc
      refine (C9.out _ HEd.out).mono ?_
      rintro e we ⟨rfl, hee, hge⟩
      have HXe := Lib.hid (HXd.out.grown hge (by intro e; have := Option.some.inj e; omega))
      have HOe := Lib.hid (HOd.out.kept hge (by omega))
      have HUe := Lib.hid (HUd.out.kept hge (.inr (fun e => by have := (HUd.out.lt _ e).1; omega)))
      have HSe := Lib.hid (HSd.out.kept hge (by omega))
      have HPe := Lib.hid (HPd.out.grown hge (by intro e; have := Option.some.inj e; omega))
      have HBe := Lib.hid (HBd.out.trans (below_grown hge (by omega) (by omega)) : Below w.heap.size w we)
      have hze' := Nat.le_trans hzd' hge.size
      have hzxe := Nat.le_trans hzxd hge.size
      have HEe := Lib.hid hee
      clear hee hge HXd HOd HUd HSd HPd HBd HEd C9
      have HLm := Lib.hid (show (cmC G E F C (.slice Ap k cp) p.cells J Y).length = 263 by simp [cmC, GL.out, CL.out, JL.out, YL.out, HPc.out])
      go_wp2_with (first
        | (refine wpList_store_piece rfl 62 _ _ rfl gx 199 rfl (Y.map b8) rfl 82 _ (G.map b8 ++ (.int .i64 (E : Int) :: .int .i64 (F : Int) :: (C.map b8 ++ (.slice Ap k cp :: (p.cells ++ J.map b8))))) (zSig.map b8) [] HXe.out (by simp [cmC]) (by simp [GL.out, CL.out, HPc.out, JL.out]) (by rw [List.length_map, List.length_map, YL.out]; rfl) (by rw [List.length_map, YL.out]; exact infoWideS) (b8s_one _) ?_; intro wf hpf hgf; have HXf := Lib.hid (hpf.cast (show _ = cmC G E F C (.slice Ap k cp) p.cells J Y by simp [cmC])); have HGf := Lib.hid hgf; clear hpf hgf)
        | (refine wpList_load_mid rfl 82 (.tmp 5) rfl gx 0 rfl (cmC G E F C (.slice Ap k cp) p.cells J Y) _ (Blk.whole HXf.out) Try.underlying82 rfl (by rw [HLm.out]; exact infoCommit) ?_))
      have HT := Lib.hid (show OwnC wf (gx + 1) ⟨G, E, F, C, ts, Ap, cp, p, J, Y⟩ from
        ⟨GL.out, CL.out, JL.out, YL.out, wf_small (by omega), wf_small (by omega), by
          show OwnP wf (gx + 1) (.slice Ap ts.length cp) ts
          rw [HAl.out]; exact HOe.out.blk HXe.out HGf.out, by show ts.length ≤ 255; rw [HAl.out]; omega, HPok.out,
          (um_blk HUe.out HXe.out HGf.out).less (by omega), by show p.leaf.um.length ≤ 300; rw [HPl.out]; exact XUm.out, (HSe.out.blk HXe.out HGf.out).less (by omega), by
          show p.steps.length ≤ 255
          rw [← List.length_map (f := StepT.v), HPs.out]; exact hLSl⟩)
      have HTv := Lib.hid (show (⟨G, E, F, C, ts, Ap, cp, p, J, Y⟩ : CommT).v = V by rw [HV.out]; unfold CommT.v; simp only [HPl.out, HPs.out, HLv.out])
      have HEf := Lib.hid (HEe.out.grown HGf.out (by omega) (by omega))
      have HPf := Lib.hid (HPe.out.grown HGf.out (by intro e; have := Option.some.inj e; omega))
      have HBf := Lib.hid (HBe.out.trans (below_grown HGf.out (by omega) (by omega)) : Below w.heap.size w wf)
      have hzf' := Nat.le_trans hze' HGf.out.size
      have hzxf := Nat.le_trans hzxe HGf.out.size
      have hput := refPutComm_any ⟨G, E, F, C, ts, Ap, cp, p, J, Y⟩ HT.out.rd (Nat.le_refl _)
      rw [commBad_X, commB_X, HTv.out, commC_cm, HAl.out] at hput
      obtain ⟨rb, hrb⟩ : ∃ rb, rb = (commBadX V || decide (65536 < (commBX V).length)) := ⟨_, rfl⟩
      obtain ⟨X, hX⟩ : ∃ X, X = (if rb = true then [] else commBX V) := ⟨_, rfl⟩
      rw [← hrb, ← hX] at hput
      have HPut := Lib.hid hput
      have HQ' := Lib.hid (show chkGood s9.2 s9.1 bs rb X = q by rw [hX, chk_if, ← HQ.out, hrb])
      clear hput hrb hX HQ HEe HPe HBe HOe HUe HSe HXe HGf HT HTv
      refine HPut.out.mono ?_
      rintro e wg ⟨vg, rfl, hog, hbg⟩
      obtain ⟨lg, hlg⟩ : ∃ l, X.length = l := ⟨_, rfl⟩
      obtain ⟨Ag, cg, rfl, hrg, -, -, -⟩ := hog.shape' hlg
      have hsg : wf.heap.size ≤ wg.heap.size := hbg.size
      have HXg := Lib.hid (HXf.out.below hbg (by omega))
      have HPg := Lib.hid (HPf.out.below hbg (by omega))
      have HBg := Lib.hid (HBf.out.trans (hbg.mono (by omega)))
      have hwh := rwhole_any (HEf.out.below hbg (Nat.le_refl _)) c (HR.out.below (HBg.out.mono hB')) HN.out cg hrg hlg rb
      rw [HQ'.out] at hwh
      have HW := Lib.hid hwh
      clear hwh hlg hog hrg hbg HPut HEf HBf HXf HPf
      go_wp2_with fail
      refine HW.out.mono ?_
      rintro e wh ⟨rfl, rfl⟩
      cases q with
      | true =>
        go_wp2_with (first
          | (refine wpList_load_mid rfl 82 (.tmp 5) rfl gx 0 rfl (cmC G E F C (.slice Ap k cp) p.cells J Y) _ (Blk.whole HXg.out) Try.underlying82 rfl (by rw [HLm.out]; exact infoCommit) ?_)
          | (refine wpList_store_blk rfl 82 _ _ rfl w.heap.size rfl (cmC G E F C (.slice Ap k cp) p.cells J Y) rfl _ _ HPg.out (by rw [zerosCommit_len, HLm.out]) (by rw [HLm.out]; exact infoCommit) (cmC_one _ _ _ _ _ rfl _ (pathC_one _) _ _) ?_; intro wz hpz hgz; have HPz := Lib.hid hpz; have HGz := Lib.hid hgz; clear hpz hgz))
        refine bodyPost_ret (v := .tuple #[.agg (cmC G E F C (.slice Ap k cp) p.cells J Y).toArray, .bool true]) (results_blk_tmp (g := w.heap.size) rfl _ _ _ _ _ _ rfl rfl HPz.out Try.underlying82 rfl (by rw [HLm.out]; exact infoCommit)) rfl ?_
        exact ⟨HBg.out.grown HGz.out (by omega) (fun k e => by cases e; omega), _, rfl, HLm.out, cmC_one _ _ _ _ _ rfl _ (pathC_one _) _ _⟩
      | false =>
        go_wp2_with (first
          | (refine wpList_build_at rfl 82 [] rfl _ _ rfl built_zComm ?_)
          | (refine wpList_store_blk rfl 82 _ _ rfl w.heap.size rfl zerosCommit rfl _ _ HPg.out rfl (by rw [zerosCommit_len]; exact infoCommit) zerosCommit_one ?_; intro wz hpz hgz; have HPz := Lib.hid hpz; have HGz := Lib.hid hgz; clear hpz hgz))
        refine bodyPost_ret (v := .tuple #[.agg zerosCommit.toArray, .bool false]) (results_blk_tmp (g := w.heap.size) rfl _ _ _ _ _ _ rfl rfl HPz.out Try.underlying82 rfl (by rw [zerosCommit_len]; exact infoCommit)) rfl ?_
        exact ⟨HBg.out.grown HGz.out (by omega) (fun k e => by cases e; omega), _, rfl, zerosCommit_len, zerosCommit_one⟩
end Go.Proofs.Ytloglpamnalmeaa
