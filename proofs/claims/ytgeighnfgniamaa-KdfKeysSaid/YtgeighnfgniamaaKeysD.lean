/- PLAIN LEMMA: what KdfKeys compares; facts of worlds that are kept whatever the order. -/
import Derived.Test.YtgeighnfgniamaaZeros
import Derived.Test.YtgeighnfgniamaaKdfTag
namespace Go.Proofs.Ytgeighnfgniamaa
open Go.RowKit
set_option linter.unusedVariables false
set_option linter.unusedSimpArgs false

theorem keyB_long {xs : List (BitVec 8)} (h : 64 < xs.length) : keyB (sum32 xs) = keyB xs := by
  unfold keyB; rw [if_pos h, if_neg (by rw [sum32_len]; omega)]
theorem tagV_long {xs : List (BitVec 8)} (h : 64 < xs.length) (ys : List (BitVec 8)) : tagV (sum32 xs) ys = tagV xs ys := by
  unfold tagV kpad; rw [keyB_long h]
theorem tagV_short {xs : List (BitVec 8)} (h : xs.length ≤ 64) (ys : List (BitVec 8)) : tagV (xs ++ List.replicate (64 - xs.length) 0#8) ys = tagV xs ys := by
  have e1 : keyB xs = xs := if_neg (by omega)
  have hl : (xs ++ List.replicate (64 - xs.length) 0#8).length = 64 := by simp; omega
  have e2 : keyB (xs ++ List.replicate (64 - xs.length) 0#8) = xs ++ List.replicate (64 - xs.length) 0#8 := if_neg (by omega)
  have e3 : kfill (keyB (xs ++ List.replicate (64 - xs.length) 0#8)) = kfill (keyB xs) := by
    rw [e1, e2]; unfold kfill; rw [hl]; simp
  unfold tagV kpad; rw [e3]
theorem bel_al {w w' : World} {o : Obj} (h : Below w.heap.size w w') : Below w.heap.size w (w'.alloc o) := h.alloc h.size o
theorem bel_dr {w w' : World} (h : Below w.heap.size w w') : Below w.heap.size w w'.drew := h.drew
abbrev PA (w : World) (g : Nat) (v : Value) : Prop := Arr (fun u : Value => u) w g 22 [v]
theorem pa_new {w : World} {g : Nat} {v : Value} (hg : g = w.heap.size) : PA (w.alloc (.cells #[v] 22)) g v := by
  subst hg; exact Arr.new (fun u : Value => u) w 22 [v]
theorem pa_al {w : World} {g : Nat} {v : Value} {o : Obj} (h : PA w g v) : PA (w.alloc o) g v := h.alloc o
theorem pa_dr {w : World} {g : Nat} {v : Value} (h : PA w g v) : PA w.drew g v := h
theorem pa_bel {w w' : World} {g : Nat} {v : Value} (hb : Below w.heap.size w w') (h : PA w g v) : PA w' g v := h.below hb h.lt
theorem pa_grew {w w' : World} {g B : Nat} {v u u' : Value} {xs : List (BitVec 8)} (hg : Grew w w' u u') (ho : Own b8 w B 5 u xs) (h : PA w g v) : PA w' g v := h.grown hg.by_ (arr_not_own h (by decide) ho)
theorem oe_new {w : World} {g B : Nat} (hg : g = w.heap.size) (hB : B ≤ w.heap.size) : Own b8 (w.alloc (.cells #[] 5)) B 5 (.slice (some ⟨g, 0, none⟩) 0 0) [] := by
  subst hg; exact (own_empty w).less hB
theorem oe_al {w : World} {B : Nat} {v : Value} {o : Obj} {xs : List (BitVec 8)} (h : Own b8 w B 5 v xs) : Own b8 (w.alloc o) B 5 v xs := h.alloc o
theorem oe_dr {w : World} {B : Nat} {v : Value} {xs : List (BitVec 8)} (h : Own b8 w B 5 v xs) : Own b8 w.drew B 5 v xs := h
theorem oe_bel {w w' : World} {B : Nat} {v : Value} {xs : List (BitVec 8)} (hb : Below w.heap.size w w') (h : Own b8 w B 5 v xs) : Own b8 w' B 5 v xs := h.below hb (Nat.le_refl _)
theorem pts_pa {w : World} {B g n c : Nat} {A : Option Addr} {ys : List (BitVec 8)} (h : PA w g (.slice A n c)) (hr : Rd b8 w B A ys) (hn : n = ys.length) : Pts w B g 0 [((A, n, c), ys)] :=
  ⟨fun k u hu => by
    have hk : k = 0 := by
      rcases k with _ | k
      · rfl
      · simp at hu
    subst hk
    simp at hu; subst hu
    exact Arr.at_ (f := fun u : Value => u) (xs := [Value.slice A n c]) (k := 0) (u := Value.slice A n c) h rfl, h.lt, fun u hu => by simp at hu; subst hu; exact hr, fun u hu => by simp at hu; subst hu; exact hn⟩
theorem step_append_zeros {P : Program} {w : World} {ops : Array Oper} {o : Oper} {a : Act} {K : Act → World → Prop} {Q : Exit → Act → World → Prop} {F : Prop} (hgd : o.guard = none) (s x : Operand) (t tn : TypeId)
    (ho : o.op = .call { callee := .builtin .append, args := #[s, x], argTypes := #[t, tn] })
    (base : Nat) (e : TypeId) (i : TypeInfo) (kn : IntKind) (ht : P.underlying t = some (.slice e)) (htn : P.underlying tn = some (.int kn)) (hi : P.info? e = some i) (hz : i.zero = some (.int .u8 0))
    (hsize : i.size = 1) (hby : i.bytes = 1) (v : Value) (xs : List (BitVec 8)) (hs : a.eval s = v) (hown : Own b8 w base e v xs) (n : Nat) (hx : a.eval x = .int .i64 (n : Int)) (hbig : xs.length + n ≤ 1000000) (hbase : base ≤ w.heap.size)
    (h : ∀ v' w', Own b8 w' base e v' (xs ++ List.replicate n 0#8) → Grew w w' v v' → (∀ C w0, C ≤ base → Below C w0 w → Below C w0 w') → K (a.put o.dst v') w') :
    if Region.wanted o (yielded ops a.tmps) = true then Oper.wp P o a w K Q else F := by
  have hw : Region.wanted o (yielded ops a.tmps) = true := by simp [Region.wanted, hgd]
  rw [if_pos hw]
  obtain ⟨v', w', hrun, h2, h3⟩ := run_append_zeros (P := P) base t tn o.type e i kn ht htn hi hz hsize hby v xs hown n hbig hbase
  unfold Oper.wp execOp
  simp only [ho, resolve, invoke, builtin, Sem.run_bind, Sem.run_pure, Result.andThen_ok, List.map_toArray, List.map_cons, List.map_nil, hs, hx, hrun]
  exact h v' w' h2 h3 (fun C w0 hC hb => h3.bel hown hbase hC hb)
theorem oe_at {w0 w : World} {g : Nat} (hb : Below w0.heap.size w0 w) (hg : g = w.heap.size) : Own b8 (w.alloc (.cells #[] 5)) w0.heap.size 5 (.slice (some ⟨g, 0, none⟩) 0 0) [] := oe_new hg hb.size
theorem wpList_zer {w : World} {ops : Array Oper} {rest : List Oper} {o : Oper} {a : Act} {Q : Exit → Act → World → Prop} (hgd : o.guard = none) (s x : Operand)
    (ho : o.op = .call { callee := .builtin .append, args := #[s, x], argTypes := #[22, 3] }) (base : Nat) (v : Value) (xs : List (BitVec 8)) (hs : a.eval s = v)
    (n : Nat) (hx : a.eval x = .int .i64 (n : Int)) (hbig : xs.length + n ≤ 1000000) (hbase : base ≤ w.heap.size) (hown : Own b8 w base 5 v xs)
    (h : ∀ v' w', Own b8 w' base 5 v' (xs ++ List.replicate n 0#8) → Grew w w' v v' → (∀ C w0, C ≤ base → Below C w0 w → Below C w0 w') → wpList Try.prog ops Q rest (a.put o.dst v') w') :
    wpList Try.prog ops Q (o :: rest) a w := by
  obtain ⟨i0, hi0, hz0, hz1, hz2⟩ := info_parts infoU8
  obtain ⟨v', w', hrun, h2, h3⟩ := run_append_zeros (P := Try.prog) base 22 3 o.type 5 i0 .i64 Try.underlying22 Try.underlying3 hi0 hz0 hz1 hz2 v xs hown n hbig hbase
  exact Lib.wpList_append_run w hgd s x 22 3 ho v _ hs hx v' w' hrun (h v' w' h2 h3 (fun C w0 hC hb => h3.bel hown hbase hC hb))
end Go.Proofs.Ytgeighnfgniamaa
