/- PLAIN LEMMA: append of so many zeros (append of make) onto a row of bytes that the call owns. -/
import Derived.Test.YtgeighnfgniamaaMem
import Derived.Lib.AppendZeros
namespace Go.Proofs.Ytgeighnfgniamaa
open Go.RowKit
set_option linter.unusedVariables false
set_option linter.unusedSimpArgs false

theorem zeroCells_one (v : Value) (n : Nat) : Builtin.zeroCells #[v] n = (List.replicate n v).toArray := by
  apply Array.ext
  · simp [Builtin.zeroCells]
  · intro j h1 h2
    simp [Builtin.zeroCells, Nat.mod_one]
theorem zeroRow (n : Nat) : (List.replicate n (0#8)).map b8 = List.replicate n (Value.int .u8 0) := by rw [List.map_replicate]; rfl
theorem run_append_zeros {P : Program} {w : World} (base : Nat) (t tn ty e : TypeId) (i : TypeInfo) (kn : IntKind) (ht : P.underlying t = some (.slice e)) (htn : P.underlying tn = some (.int kn)) (hi : P.info? e = some i) (hz : i.zero = some (.int .u8 0))
    (hsize : i.size = 1) (hby : i.bytes = 1) (v : Value) (xs : List (BitVec 8)) (hown : Own b8 w base e v xs) (n : Nat) (hbig : xs.length + n ≤ 1000000) (hbase : base ≤ w.heap.size) :
    ∃ v' w', (Builtin.append_ #[t, tn] ty #[v, .int .i64 (n : Int)]).run P w = .ok v' w' ∧ Own b8 w' base e v' (xs ++ List.replicate n 0#8) ∧ Grew w w' v v' := by
  have hw : IntKind.i64.wrap (n : Int) = n := by rw [IntKind.wrap_i64]; omega
  have hneg : ¬ ((n : Int) < 0) := by omega
  have h48i : ¬ (281474976710656 < (n : Int) * ((1 : Nat) : Int)) := by omega
  have h48j : ¬ (281474976710656 < (n : Int)) := by omega
  have hzc : (Value.int .u8 0).cells = #[.int .u8 0] := rfl
  rcases Nat.eq_zero_or_pos n with rfl | h0
  · refine ⟨v, w, ?_, by simpa using hown, .inl ⟨rfl, rfl⟩⟩
    have hw0 : IntKind.i64.wrap 0 = 0 := rfl
    rcases hown.2 with ⟨rfl, _⟩ | ⟨g, cap, cur, rfl, _, _, hnc, _⟩
    · simp [Builtin.append_, run_underlying ht, run_underlying htn, sizeOf, typeInfo, hi, asInt, asIntOf, hw0]
    · simp [Builtin.append_, run_underlying ht, run_underlying htn, sizeOf, typeInfo, hi, asInt, asIntOf, hw0, hnc, storeCells]
  · have hn0 : n ≠ 0 := by omega
    have grown : ∀ (old : Nat), old < xs.length + n →
        Own b8 (w.drew.alloc (.cells ((xs.map b8).toArray ++ (List.replicate n (Value.int .u8 0)).toArray ++ Builtin.zeroCells #[.int .u8 0] (grownCap w (xs.length + n) old e - (xs.length + n))) e)) base e
          (.slice (some ⟨w.heap.size, 0, none⟩) (xs.length + n) (grownCap w (xs.length + n) old e)) (xs ++ List.replicate n 0#8) ∧
        w.grownBy (w.drew.alloc (.cells ((xs.map b8).toArray ++ (List.replicate n (Value.int .u8 0)).toArray ++ Builtin.zeroCells #[.int .u8 0] (grownCap w (xs.length + n) old e - (xs.length + n))) e)) none := by
      intro old ho
      have hge := grownCap_ge w (xs.length + n) old e
      have hcm := grownCap_le_maxLen w (xs.length + n) old e (by unfold maxLen; omega)
      refine ⟨⟨by simp, .inr ⟨w.heap.size, _, _, by simp, hbase, heap_alloc_new w.drew _, by simpa using hge, hcm, ?_, ?_⟩⟩, ⟨rfl, rfl, rfl, by simp, fun k hk _ => heap_alloc_old w.drew _ hk⟩⟩
      · simp only [Array.size_append, List.size_toArray, List.length_map, List.length_replicate, size_zeroCells]
        simp
        omega
      · simp only [Array.toList_append, Nat.mul_one]
        rw [List.map_append, zeroRow, List.take_append_of_le_length (by simp)]
        exact List.take_of_length_le (by simp)
    rcases hown.2 with ⟨rfl, hx0⟩ | ⟨g, cap, cur, rfl, hbg, hg, hnc, hcm, hcs, htake⟩
    · have hx : xs = [] := List.eq_nil_of_length_eq_zero hx0
      subst hx
      have hr := Lib.run_append_nil_zeros (P := P) w t tn ty e i _ .i64 kn ht htn hi hz n h0 (by omega) (by simp at hbig; omega) (by rw [hby]; simp at hbig; omega)
      have hgr := grown 0 (by simpa using h0)
      simp only [List.length_nil, Nat.zero_add, List.map_nil, List.nil_append, Array.empty_append] at hgr ⊢
      rw [hzc, zeroCells_one _ n] at hr
      exact ⟨_, _, hr, hgr.1, .inr (.inr ⟨rfl, hgr.2⟩)⟩
    · have hxl : (xs.map b8).length = xs.length := List.length_map ..
      have hns : ¬ (n * 1 = 0) := by omega
      by_cases hroom : xs.length + n ≤ cap
      · have hcs' : cur.size = cap := by simpa using hcs
        have hst := run_storeCells_at P g xs.length e (List.replicate n (Value.int .u8 0)) 0 cur w hg (by simp; omega) (fun u hu => by rw [(List.mem_replicate.1 hu).2]; rfl)
        simp only [Nat.add_zero] at hst
        have hr : (Builtin.append_ #[t, tn] ty #[.slice (some ⟨g, 0, none⟩) xs.length cap, .int .i64 (n : Int)]).run P w = .ok (.slice (some ⟨g, 0, none⟩) (xs.length + n) cap) (w.setRow g (cur.toList.take xs.length ++ List.replicate n (Value.int .u8 0) ++ cur.toList.drop (xs.length + (List.replicate n (Value.int .u8 0)).length)).toArray) := by
          simp [Builtin.append_, run_underlying ht, run_underlying htn, sizeOf, typeInfo, zeroValue, hi, hz, asInt, asIntOf, hw, hneg, hn0, hsize, hby, h48j, hroom, hzc, zeroCells_one, Addr.add_lit]
          rw [List.length_replicate] at hst
          rw [hst, List.append_assoc]; rfl
        rw [hxl] at *
        refine ⟨_, _, hr, ⟨by simp, .inr ⟨g, cap, _, by simp, hbg, setRow_heap w g cur _ e _ hg, by simpa using hroom, hcm, ?_, ?_⟩⟩, .inr (.inl ⟨g, _, _, cap, rfl, rfl, ⟨rfl, rfl, rfl, by simp, fun k _ hk => setRow_other w g k _ (fun e => hk (by simp [e]))⟩⟩)⟩
        · simp only [List.size_toArray, List.length_append, List.length_take, List.length_drop, Array.length_toList, List.length_replicate]
          omega
        · simp only [Nat.mul_one] at htake
          rw [htake, List.map_append, zeroRow]
          exact List.take_left' (by simp)
      · have holds : ∀ j u, (xs.map b8)[j]? = some u → w.cell? ((⟨g, 0, none⟩ : Addr).add j) = some u := World.ownsRow.cells (g := g) hown rfl
        have hfo := run_firstCells_some (P := P) w.drew 1 xs.length ⟨g, 0, none⟩ xs.length cap (xs.map b8) (by simp) (by simpa using holds)
        have h63' : ¬ (9223372036854775807 < ((xs.length : Int) + (n : Int))) := by omega
        have hge := growslice_fits (need := xs.length + n) (old := cap) (bytes := 1) (by omega) (by omega)
        have hr : (Builtin.append_ #[t, tn] ty #[.slice (some ⟨g, 0, none⟩) xs.length cap, .int .i64 (n : Int)]).run P w = .ok (.slice (some ⟨w.heap.size, 0, none⟩) (xs.length + n) (grownCap w (xs.length + n) cap e))
            (w.drew.alloc (.cells ((xs.map b8).toArray ++ (List.replicate n (Value.int .u8 0)).toArray ++ Builtin.zeroCells #[.int .u8 0] (grownCap w (xs.length + n) cap e - (xs.length + n))) e)) := by
          have h48' : ¬ (281474976710656 < Builtin.nextslicecap (xs.length + n) cap) := by omega
          simp [Builtin.append_, run_underlying ht, run_underlying htn, sizeOf, typeInfo, zeroValue, hi, hz, asInt, asIntOf, hw, hneg, hn0, hsize, hby, h48j, hroom, hzc, zeroCells_one, h63', h48', Question.forced, hfo, newRow, grownCap]
        have hgr := grown cap (by omega)
        exact ⟨_, _, hr, hgr.1, .inr (.inr ⟨rfl, hgr.2⟩)⟩
end Go.Proofs.Ytgeighnfgniamaa
