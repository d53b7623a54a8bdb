/- PLAIN LEMMAS on memory: what lies in cells is kept where an object that is no row of cells is changed. -/
import Derived.Test.YtkoefhbmkmepaaaArr
import Derived.Test.YtkoefhbmkmepaaaChunkP
namespace Go.Proofs.Ytkoefhbmkmepaaa
open Go.RowKit
set_option linter.unusedVariables false
set_option linter.unusedSimpArgs false
attribute [local go_sem] Oper.semAt_some
section
variable {W W' : World} {row : Option Nat}
theorem arrO {α : Type} {f : α → Value} {g : Nat} {T : TypeId} {xs : List α} (h : Arr f W g T xs) (hg : W.grownBy W' row) (hr : ∀ r, row = some r → ∃ o : Obj, W.heap[r]? = some o ∧ o.isCells = false) : Arr f W' g T xs :=
  h.grown hg (fun e => by
    obtain ⟨o, ho, hn⟩ := hr g e.symm
    have : W.heap[g]? = some (.cells (xs.map f).toArray T (0, 0)) := h
    rw [this] at ho; cases ho; cases hn)
theorem boxO {g : Nat} {T : TypeId} {v : Value} (h : Boxed W g T v) (hg : W.grownBy W' row) (hr : ∀ r, row = some r → ∃ o : Obj, W.heap[r]? = some o ∧ o.isCells = false) : Boxed W' g T v :=
  h.kept hg (fun e => by
    obtain ⟨o, ho, hn⟩ := hr g e.symm
    have : W.heap[g]? = some (.cells #[v] T (0, 0)) := h
    rw [this] at ho; cases ho; cases hn)
theorem ownO {α : Type} {f : α → Value} {B E : Nat} {v : Value} {xs : List α} (h : Own f W B E v xs) (hg : W.grownBy W' row) (hr : ∀ r, row = some r → ∃ o : Obj, W.heap[r]? = some o ∧ o.isCells = false) : Own f W' B E v xs :=
  h.kept' hg (fun g e hv => by
    obtain ⟨o, ho, hc⟩ := hr g e
    rcases h.2 with ⟨rfl, _⟩ | ⟨g', cap, cur, rfl, _, hg', _⟩
    · cases hv
    · obtain rfl : g' = g := by simpa [Value.ownBlock] using hv
      rw [hg'] at ho; cases ho; cases hc)
end
theorem arr_not_own {α β : Type} {f : α → Value} {f' : β → Value} {w : World} {g T B e : Nat} {ys : List β} {v : Value} {xs : List α} (h : Arr f' w g T ys) (hte : T ≠ e) (hr : Own f w B e v xs) : some g ≠ v.ownBlock := by
  rcases hr.2 with ⟨rfl, _⟩ | ⟨g', cap, cur, rfl, _, hgb, _⟩
  · simp [Value.ownBlock]
  · intro e'
    obtain rfl : g = g' := by simpa [Value.ownBlock] using e'
    have : w.heap[g]? = some (.cells (ys.map f').toArray T (0, 0)) := h
    rw [this] at hgb; cases hgb; exact hte rfl
/-- an iterator over the parts of no text -/
theorem chunkZ_stops (m : Nat) (hm : 3 ≤ m) (A : Option Addr) (b c q bs bn n₀ : Nat) (w : World)
    (hbs : Boxed w bs 47 (.slice A 0 c)) (hbn : Boxed w bn 3 (.int .i64 (q : Int))) :
    SeqStopsK Fence.wide m Try.prog 69 #[.pointer (some ⟨bs, 0, none⟩), .pointer (some ⟨bn, 0, none⟩)] (fun x : Cj 0 q => encJ b q 0 x) (KpC n₀ bs bn) (fun ys => ys.map Subtype.val = List.range 0) (fun _ => True) 0 w := fun l J Jx W hW hJ _ hY h0 => by
  have hbs := boxed_bl hbs hW
  have hbn := boxed_bl hbn hW
  clear hW
  refine callsIn_of_wp Try.func69 rfl trivial ?_ rfl
  simp only [Try.ntmps69, List.size_toArray, List.length_cons, List.length_nil, Nat.reduceAdd, Nat.reduceSub, Array.replicate_succ, Array.replicate_zero, List.push_toArray, List.append_toArray, List.nil_append, List.cons_append]
  have H0 := Lib.hid h0
  have HBs := Lib.hid hbs
  have hm1 : 1 ≤ m := by omega
  have hm2 : 1 ≤ m - 1 := by omega
  clear hJ hY h0 hbs hbn
  gi_wp2_with fail
  gi_loopw [4] (fun v wr => v = .int .i64 0 ∧ J [] wr ∧ Boxed wr bs 47 (.slice A 0 c)) (fun v _ => 0)
  case atStart => exact ⟨rfl, H0.out, HBs.out⟩
  case round =>
    obtain ⟨rfl, hJs, hbs⟩ := hrel
    have cs := hbs.cell
    gi_wp2_with fail
    go_end0
    exact ⟨⟨_, rfl⟩, .inl ⟨[], rfl, hJs⟩⟩
end Go.Proofs.Ytkoefhbmkmepaaa
