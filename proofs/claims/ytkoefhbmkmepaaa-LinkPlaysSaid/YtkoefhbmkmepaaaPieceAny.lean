/- CONTRACTS: chacha.Piece, burrowref03.Piece, at any arguments. -/
import Derived.Test.YtkoefhbmkmepaaaRefPiece
namespace Go.Proofs.Ytkoefhbmkmepaaa
open Go.RowKit
set_option linter.unusedVariables false
set_option linter.unusedSimpArgs false

def pieceV (key nonce : List (BitVec 8)) (number : Int) : List (BitVec 8) := if badP nonce.length number = 0 then pieceL key nonce (BitVec.ofInt 32 number) else List.replicate 64 0#8
theorem pieceV_len (key nonce : List (BitVec 8)) (number : Int) : (pieceV key nonce number).length = 64 := by
  unfold pieceV; split
  · exact pieceL_len _ _ _
  · simp
theorem badP_zero {n : Nat} {number : Int} (h : badP n number = 0) : n = 12 ∧ 0 ≤ number ∧ number ≤ 4294967295 := by
  unfold badP at h
  split at h
  · cases h
  · split at h
    · cases h
    · omega
theorem zeros64 (w : World) (key : List (BitVec 8)) : Arr b8 ((w.alloc (.cells (key.map b8).toArray 39)).alloc (.cells ((List.replicate 64 0#8).map b8).toArray 82)) (w.heap.size + 1) 82 (List.replicate 64 0#8) := Arr.at_size b8 _ _ (by simp)
theorem info64 : (Try.prog.info? 82).map (·.size) = some (List.replicate 64 0#8).length := by rw [List.length_replicate]; kernel_rfl

set_option maxRecDepth 100000 in
set_option maxHeartbeats 2000000 in
theorem piece_any (key : List (BitVec 8)) (A : Option Addr) (n c B : Nat) (nonce : List (BitVec 8)) (number : Int) (w : World) (hk : key.length = 32) (hr : Rd b8 w B A nonce) (hB : B ≤ w.heap.size) (hn : nonce.length = n) (hnc : n ≤ c) :
    Calls Try.prog 47 #[arrV b8 key, .slice A n c, .int .i64 number] w fun e w' => e = .returned (.tuple #[arrV b8 (pieceV key nonce number), errV (badP n number)]) ∧ Below w.heap.size w w' := by
  by_cases hz : badP n number = 0
  · obtain ⟨h12, h0, hmx⟩ := badP_zero hz
    subst h12
    obtain ⟨b, off, rfl, hb, hc⟩ := hr (by omega)
    have e : pieceV key nonce number = pieceL key nonce (BitVec.ofInt 32 number) := by unfold pieceV; rw [hn, if_pos hz]
    rw [e, hz, errV_zero]
    exact piece_ok key b off c B nonce number w hk hc (by omega) hn hnc hz _ rfl
  · have e : pieceV key nonce number = List.replicate 64 0#8 := by unfold pieceV; rw [hn, if_neg hz]
    rw [e]
    obtain ⟨bad, hbad⟩ : ∃ bad, bad = badP n number := ⟨_, rfl⟩
    have hc := fun w => check03_any A n c number w
    simp only [← hbad] at hc
    rw [← hbad] at hz ⊢
    rw [errV_pos hz] at hc ⊢
    have HC := Lib.hid hc
    have HZ := Lib.hid (zeros64 w key)
    rw [arrV_mk, arrV_mk]
    clear hr hn e hbad hc hk
    go_enter Try.func47, Try.ntmps47
    go_wp2_with fail
    refine (HC.out _).mono ?_
    rintro e w' ⟨rfl, rfl⟩
    go_wp2_with (first
      | refine wpList_load_arr rfl 82 _ rfl (w.heap.size + 1) rfl _ (List.replicate 64 0#8) HZ.out _ Try.underlying82 rfl info64 ?_
      | (refine wpList_store_arr rfl 82 _ _ rfl (w.heap.size + 1) rfl (List.replicate 64 0#8) rfl _ _ HZ.out rfl info64 b8_one' ?_; intro w9 ho9 hg9))
    have Ho9 := Lib.hid ho9
    clear ho9
    refine bodyPost_ret (v := .tuple #[.agg ((List.replicate 64 0#8).map b8).toArray, .iface 36 (.int .i64 (bad : Int))]) (results_arr_tmp (g := w.heap.size + 1) rfl _ _ _ _ _ _ rfl rfl Ho9.out Try.underlying82 rfl info64) rfl ?_
    exact ⟨rfl, (((Below.refl _ _).alloc (Nat.le_refl _) _).alloc (by simp) _).grown hg9 (by simp; omega) (fun k e => by cases e; omega)⟩

theorem zeros64b (w : World) (key : List (BitVec 8)) : Arr b8 (((w.alloc (.cells (key.map b8).toArray 39)).alloc (.cells ((List.replicate 64 0#8).map b8).toArray 82)).alloc (.cells ((List.replicate 64 0#8).map b8).toArray 82)) (w.heap.size + 1) 82 (List.replicate 64 0#8) := (zeros64 w key).alloc _
theorem zeros64c (w : World) (key : List (BitVec 8)) : Arr b8 (((w.alloc (.cells (key.map b8).toArray 39)).alloc (.cells ((List.replicate 64 0#8).map b8).toArray 82)).alloc (.cells ((List.replicate 64 0#8).map b8).toArray 82)) (w.heap.size + 1 + 1) 82 (List.replicate 64 0#8) := Arr.at_size b8 _ _ (by simp)
set_option maxRecDepth 100000 in
set_option maxHeartbeats 2000000 in
theorem refPiece_any (key : List (BitVec 8)) (A : Option Addr) (n c B : Nat) (nonce : List (BitVec 8)) (number : Int) (w : World) (hk : key.length = 32) (hr : Rd b8 w B A nonce) (hB : B ≤ w.heap.size) (hn : nonce.length = n) (hnc : n ≤ c) :
    Calls Try.prog 50 #[arrV b8 key, .slice A n c, .int .i64 number] w fun e w' => e = .returned (.tuple #[arrV b8 (pieceV key nonce number), .int .i64 (badP n number : Int)]) ∧ Below w.heap.size w w' := by
  by_cases hz : badP n number = 0
  · obtain ⟨h12, h0, hmx⟩ := badP_zero hz
    subst h12
    obtain ⟨b, off, rfl, hb, hc⟩ := hr (by omega)
    have e : pieceV key nonce number = pieceL key nonce (BitVec.ofInt 32 number) := by unfold pieceV; rw [hn, if_pos hz]
    rw [e, hz]
    exact refPiece_ok key b off c nonce number w hk hc (by omega) hn hnc h0 hmx _ rfl
  · have e : pieceV key nonce number = List.replicate 64 0#8 := by unfold pieceV; rw [hn, if_neg hz]
    rw [e]
    have HZ0 := Lib.hid hz
    clear hz
    by_cases h1 : n = 12
    · subst h1
      by_cases h2 : number < 0
      · rw [badP_num rfl (.inl h2)]
        have h2' : decide (number < 0) = true := by simpa using h2
        have HZ := Lib.hid (zeros64b w key)
        have HZ2 := Lib.hid (zeros64c w key)
        rw [arrV_mk, arrV_mk]
        clear hr hn e hk
        go_enter Try.func50, Try.ntmps50
        go_wp2_with (first
          | refine wpList_load_arr rfl 82 _ rfl (w.heap.size + 1 + 1) rfl _ (List.replicate 64 0#8) HZ2.out _ Try.underlying82 rfl info64 ?_
          | (refine wpList_store_arr rfl 82 _ _ rfl (w.heap.size + 1) rfl (List.replicate 64 0#8) rfl _ _ HZ.out rfl info64 b8_one' ?_; intro w9 ho9 hg9))
        have Ho9 := Lib.hid ho9
        clear ho9
        refine bodyPost_ret (v := .tuple #[.agg ((List.replicate 64 0#8).map b8).toArray, .int .i64 8]) (results_arr_tmp (g := w.heap.size + 1) rfl _ _ _ _ _ _ rfl rfl Ho9.out Try.underlying82 rfl info64) rfl ?_
        exact ⟨rfl, ((((Below.refl _ _).alloc (Nat.le_refl _) _).alloc (by simp) _).alloc (by simp; omega) _).grown hg9 (by simp; omega) (fun k e => by cases e; omega)⟩
      · have h2' : decide (number < 0) = false := by simpa using h2
        by_cases h3 : 4294967295 < number
        · rw [badP_num rfl (.inr h3)]
          have h3' : decide (4294967295 < number) = true := by simpa using h3
          have HZ := Lib.hid (zeros64b w key)
          have HZ2 := Lib.hid (zeros64c w key)
          rw [arrV_mk, arrV_mk]
          clear hr hn e hk
          go_enter Try.func50, Try.ntmps50
          go_wp2_with (first
            | refine wpList_load_arr rfl 82 _ rfl (w.heap.size + 1 + 1) rfl _ (List.replicate 64 0#8) HZ2.out _ Try.underlying82 rfl info64 ?_
            | (refine wpList_store_arr rfl 82 _ _ rfl (w.heap.size + 1) rfl (List.replicate 64 0#8) rfl _ _ HZ.out rfl info64 b8_one' ?_; intro w9 ho9 hg9))
          have Ho9 := Lib.hid ho9
          clear ho9
          refine bodyPost_ret (v := .tuple #[.agg ((List.replicate 64 0#8).map b8).toArray, .int .i64 8]) (results_arr_tmp (g := w.heap.size + 1) rfl _ _ _ _ _ _ rfl rfl Ho9.out Try.underlying82 rfl info64) rfl ?_
          exact ⟨rfl, ((((Below.refl _ _).alloc (Nat.le_refl _) _).alloc (by simp) _).alloc (by simp; omega) _).grown hg9 (by simp; omega) (fun k e => by cases e; omega)⟩
        · exfalso
          exact HZ0.out (badP_ok rfl (by omega))
    · rw [badP_len h1]
      have h1' : ((n : Int) != 12) = true := by rw [bne_iff_ne]; omega
      clear h1
      have HZ := Lib.hid (zeros64b w key)
      have HZ2 := Lib.hid (zeros64c w key)
      rw [arrV_mk, arrV_mk]
      clear hr hn e hk
      go_enter Try.func50, Try.ntmps50
      go_wp2_with (first
        | refine wpList_load_arr rfl 82 _ rfl (w.heap.size + 1 + 1) rfl _ (List.replicate 64 0#8) HZ2.out _ Try.underlying82 rfl info64 ?_
        | (refine wpList_store_arr rfl 82 _ _ rfl (w.heap.size + 1) rfl (List.replicate 64 0#8) rfl _ _ HZ.out rfl info64 b8_one' ?_; intro w9 ho9 hg9))
      have Ho9 := Lib.hid ho9
      clear ho9
      refine bodyPost_ret (v := .tuple #[.agg ((List.replicate 64 0#8).map b8).toArray, .int .i64 1]) (results_arr_tmp (g := w.heap.size + 1) rfl _ _ _ _ _ _ rfl rfl Ho9.out Try.underlying82 rfl info64) rfl ?_
      exact ⟨rfl, ((((Below.refl _ _).alloc (Nat.le_refl _) _).alloc (by simp) _).alloc (by simp; omega) _).grown hg9 (by simp; omega) (fun k e => by cases e; omega)⟩
end Go.Proofs.Ytkoefhbmkmepaaa
