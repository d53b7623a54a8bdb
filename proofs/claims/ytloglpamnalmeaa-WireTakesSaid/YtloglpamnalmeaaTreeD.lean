/- PLAIN LEMMAS AND A CONTRACT: trees as rows of nodes; burrowlaw09.tree. -/
import Derived.Test.YtloglpamnalmeaaBase
import Derived.Test.YtloglpamnalmeaaBlank
namespace Go.Proofs.Ytloglpamnalmeaa
open Go.RowKit
set_option linter.unusedVariables false
set_option linter.unusedSimpArgs false

/-- a node in memory: what it says, where its list lies -/
structure TN where
  x : NodeD
  A : Option Addr
  c : Nat
def TN.cells (t : TN) : List Value := nodeC t.x t.A t.c
def tnC (ts : List TN) : List Value := ts.flatMap TN.cells
structure RdT (w : World) (B : Nat) (A : Option Addr) (ts : List TN) : Prop where
  row : RdV w B A (tnC ts)
  ok : ∀ t ∈ ts, t.x.Ok
  um : ∀ t ∈ ts, Rd cI w B t.A t.x.um
theorem RdT.below {w w' : World} {B : Nat} {A : Option Addr} {ts : List TN} (h : RdT w B A ts) (hb : Below B w w') : RdT w' B A ts := ⟨h.row.below hb, h.ok, fun t ht => (h.um t ht).below hb⟩
theorem RdT.elem {w : World} {B : Nat} {A : Option Addr} {ts : List TN} (h : RdT w B A ts) {k : Nat} {t : TN} (hk : ts[k]? = some t) :
    ∃ b off, A = some ⟨b, off, none⟩ ∧ b < B ∧ w.rangeAt b (off + k * 99) t.cells := by
  have := RdV.elem h.row (fun t ht => nodeC_len (h.ok t ht) t.A t.c) (by omega) hk
  rwa [Nat.mul_comm] at this
/-- the zero node -/
def zNode : NodeD := ⟨false, 0, zero32, zero32, zero32, []⟩
theorem zNode_ok : zNode.Ok := ⟨zero32_len, zero32_len, zero32_len, by decide, by simp [zNode]⟩
def zTN : List Value := nodeC zNode none 0
theorem zTN_len : zTN.length = 99 := nodeC_len zNode_ok none 0
def lawTree (ts : List TN) : Bool := decide (ts.length ≤ 101) && ts.all fun t => decide (t.x.um.length < 100)

set_option maxRecDepth 100000 in
set_option maxHeartbeats 2000000 in
theorem lawTree_any {w : World} {B : Nat} {A : Option Addr} {n c : Nat} {ts : List TN} (hr : RdT w B A ts) (hB : B ≤ w.heap.size) (hn : ts.length = n) (hmax : n ≤ 9223372036854775807) :
    Calls Try.prog 25 #[.slice A n c] w fun e w' => e = .returned (.bool (lawTree ts)) ∧ Below w.heap.size w w' := by
  have HR := Lib.hid hr
  have HN := Lib.hid hn
  obtain ⟨q, hq⟩ : ∃ q, q = lawTree ts := ⟨_, rfl⟩
  rw [← hq]
  have HQ := Lib.hid hq
  clear hr hn hq
  go_enter Try.func25, Try.ntmps25
  go_wp2_with fail
  go_loopw [3, 4, 7] (fun iv pv jv wr => ∃ k : Nat, k ≤ n ∧ k ≤ 101 ∧ jv = .int .i64 (k : Int) ∧ (ts.take k).all (fun t => decide (t.x.um.length < 100)) = true ∧ Below w.heap.size w wr) (fun _ _ jv _ => n - (intOf jv).toNat)
  case atStart => exact ⟨0, by omega, by omega, rfl, rfl, Below.refl _ _⟩
  case round =>
    obtain ⟨k, hk, hk101, rfl, hall, hb⟩ := hrel
    have HBr := Lib.hid hb
    have HAll := Lib.hid hall
    have hzr := hb.size
    clear hb hall
    by_cases hlt : k < n
    · have hlt' : (k : Int) < (n : Int) := by omega
      obtain ⟨t, ht⟩ : ∃ t, ts[k]? = some t := ⟨ts[k]'(by rw [HN.out]; omega), List.getElem?_eq_getElem _⟩
      obtain ⟨b, off, e1, hbb, hc1⟩ := (HR.out.below (HBr.out.mono hB)).elem ht
      subst e1
      have HT := Lib.hid ht
      have HC := Lib.hid hc1
      clear ht hc1
      have hok := HR.out.ok t (List.mem_of_getElem? HT.out)
      have HOk := Lib.hid hok
      have hlen : t.cells.length = 99 := nodeC_len hok t.A t.c
      have HLen := Lib.hid hlen
      clear hlen hok
      by_cases hk100 : 100 < k
      · have hk' : (100 : Int) < (k : Int) := by omega
        go_wp2_with (first
          | (refine wpList_load_midw (by first | rfl | go_simp) 50 (.tmp 10) rfl b (off + k * 99) rfl t.cells _ HC.out Try.underlying50 rfl (by rw [HLen.out]; exact infoNode) ?_)
          | (refine wpList_store_blk rfl 50 _ _ rfl wr.heap.size rfl t.cells rfl _ _ (Blk.new wr 50 zTN) (by rw [zTN_len, HLen.out]) (by rw [HLen.out]; exact infoNode) (nodeC_one t.x t.A t.c) ?_; intro w2 hp2 hg2; have HP2 := Lib.hid hp2; have HG2 := Lib.hid hg2; clear hp2 hg2))
        go_ret
        refine ⟨?_, ((HBr.out.alloc hzr _).grown HG2.out (by simp; omega) (fun g e => by cases e; exact hzr))⟩
        rw [HQ.out, lawTree, HN.out, show decide (n ≤ 101) = false by simp; omega]; rfl
      · have hk' : ((100 : Int) < (k : Int)) = False := by simp; omega
        have HL := Lib.hid (lawNode_any t.x HOk.out t.A t.c)
        obtain ⟨bl, hbl⟩ : ∃ bl, bl = decide ((t.x.um.length : Int) < 100) := ⟨_, rfl⟩
        rw [← hbl] at HL
        have HBl := Lib.hid hbl
        clear hbl
        go_wp2_with (first
          | (refine wpList_load_midw (by first | rfl | go_simp) 50 (.tmp 4) rfl wr.heap.size 0 rfl t.cells _ (Blk.whole HP2.out) Try.underlying50 rfl (by rw [HLen.out]; exact infoNode) ?_)
          | (refine wpList_load_midw (by first | rfl | go_simp) 50 (.tmp 10) rfl b (off + k * 99) rfl t.cells _ HC.out Try.underlying50 rfl (by rw [HLen.out]; exact infoNode) ?_)
          | (refine wpList_store_blk rfl 50 _ _ rfl wr.heap.size rfl t.cells rfl _ _ (Blk.new wr 50 zTN) (by rw [zTN_len, HLen.out]) (by rw [HLen.out]; exact infoNode) (nodeC_one t.x t.A t.c) ?_; intro w2 hp2 hg2; have HP2 := Lib.hid hp2; have HG2 := Lib.hid hg2; clear hp2 hg2))
        refine (HL.out w2).mono ?_
        rintro e w3 ⟨rfl, hb3⟩
        have HB3 := Lib.hid (((HBr.out.alloc hzr _).grown HG2.out (by simp; omega) (fun g e => by cases e; exact hzr)).trans (hb3.mono (by have := HG2.out.size; simp at this; omega)))
        clear hb3
        cases bl with
        | true =>
          have e1 : (ts.take (k + 1)).all (fun t => decide (t.x.um.length < 100)) = true := by
            rw [List.take_add_one, List.all_append, HAll.out, HT.out]
            have := HBl.out.symm
            simp at this ⊢; omega
          have HE1 := Lib.hid e1
          clear e1
          go_wp2_with fail
          exact ⟨⟨k + 1, by omega, by omega, rfl, HE1.out, HB3.out⟩, by show n - ((k : Int) + 1).toNat < n - (k : Int).toNat; omega⟩
        | false =>
          go_wp2_with fail
          go_ret
          refine ⟨?_, HB3.out⟩
          have e : (ts.all fun t => decide (t.x.um.length < 100)) = false := by
            rw [List.all_eq_false]
            refine ⟨t, List.mem_of_getElem? HT.out, ?_⟩
            have := HBl.out.symm
            simp at this ⊢; omega
          rw [HQ.out, lawTree, e]; simp
    · obtain rfl : k = n := by omega
      go_wp2_with fail
      go_ret
      refine ⟨?_, HBr.out⟩
      have e : ts.take k = ts := List.take_of_length_le (by rw [HN.out]; omega)
      have h := HAll.out
      rw [e] at h
      rw [HQ.out, lawTree, HN.out, h, show decide (k ≤ 101) = true by simp; omega]; rfl
end Go.Proofs.Ytloglpamnalmeaa
