/- ChainOnce, the walk: the same number of the same leaf has the same key, and no key is answered twice. -/
import Derived.Test.YtmncihhofppkdaaDoorOnceL
import Derived.Test.YtmncihhofppkdaaDoorLookC
import Derived.Test.YtmncihhofppkdaaDoorLkBits
import Derived.Test.YtmncihhofppkdaaDoorAlive19
namespace Go.Proofs.YtmncihhofppkdaaDoor
open Go.RowKit Go.Maps
set_option linter.unusedVariables false
set_option linter.unusedSimpArgs false
theorem onceC_rngO (w : World) (g : Nat) (T : TypeId) (n : Int) (key : List (BitVec 8)) (v : Value) (hk : key.length = 32) (b : Blk w g T (onceC n key v)) : w.rangeAt g 1 (key.map b8) := by
  have h := b.range 1 32
  rwa [show ((onceC n key v).drop 1).take 32 = key.map b8 by unfold onceC; rw [List.drop_succ_cons, List.drop_zero, List.take_left' (by rw [List.length_map, hk])]] at h
theorem key_eqO (key : List (BitVec 8)) (hk : key.length = 32) (w : World) : (Op.equalIn 10000 29 (.agg (key.map b8).toArray) (.agg (key.map b8).toArray)).run Tryd.prog w = .ok true w := by
  rw [map_b8_cell, run_equalIn_bytes w 9998 29 5 32 Tryd.underlying29 Tryd.underlying5 (fun _ => by kernel_rfl) (key.map u8) (key.map u8) (by simpa using hk) (by simpa using hk), u8_beq, beq_self_eq_true]
/-- how often each number was answered -/
structure TimesD (D : DataW Value) (asked : List Int) : Prop where
  map : IsMap D
  at_ : ∀ k : Nat, k < 70 → D.atKey (.int .i64 (k : Int)) (.lit (.int .i64 0)) = .lit (.int .i64 (if (k : Int) ∈ asked then 1 else 0))
theorem TimesD.start : TimesD (.map []) [] := ⟨isMap_empty, fun k _ => by simp [DataW.atKey]⟩
theorem TimesD.put {D : DataW Value} {asked : List Int} (h : TimesD D asked) (m : Nat) : TimesD (D.put (.int .i64 (m : Int)) (.lit (.int .i64 1))) (asked ++ [(m : Int)]) := by
  refine ⟨h.map.put _ _, fun k hk => ?_⟩
  by_cases e : k = m
  · subst e
    rw [Maps.atKey_put_same h.map (show WideAt.IsKeyLit (.int .i64 (k : Int)) from trivial), if_pos (by simp)]
  · rw [Maps.atKey_put_other (by intro h1; injection h1 with _ h1; omega), h.at_ k hk]
    congr 3
    rw [List.mem_append, List.mem_singleton]
    simp; intro h1; omega
def MapT (w : World) (g n : Nat) (D : DataW Value) : Prop := w.ownsMap Tryd.prog 3 (plainElem Tryd.prog 3) g n D
theorem MapT.run {w : World} {g n : Nat} {D : DataW Value} (h : MapT w g n D) {asked : List Int} (ht : TimesD D asked) {m : Nat} (hm : m < 70) {c : Int} (hc : (if (m : Int) ∈ asked then 1 else 0) = c) :
    (Instr.lookup 48 (.map (some g)) (.int .i64 (m : Int)) false).run Tryd.prog w = .ok (.int .i64 c) w := by
  obtain ⟨c', h1, h2, -⟩ := World.ownsMap.lookup_int (t := 48) (e := 3) h intKey Tryd.underlying48 Tryd.underlying3 (by kernel_rfl) (keyI (a := (m : Int)) (by omega) (by omega))
  rw [ht.at_ m hm, hc] at h2
  have h3 := DataW.lit.inj h2
  have h4 := (Lit.int.inj h3).2
  rw [h1, h4]
theorem onceK (n : Nat) (key : List (BitVec 8)) (b : Nat) (hk : key.length = 32) : anyE (.agg (onceC (n : Int) key (nonceS b)).toArray) = some (.held (.agg (onceC (n : Int) key (nonceS b)).toArray), []) :=
  anyE_mk (onceB_mk (onceC_len _ _ _ hk) (onceC_one _ _ _ _ _))
/-- one more key is held by the law's map -/
theorem heldAt_put {w w' : World} {gm : Nat} {z : List (BitVec 8)} {hp : List (OnceM × Nat)} {j b : Nat} (h : HeldAt w gm hp) (hf : hp.map Prod.fst = runL z 0 j)
    (hm : w'.ownsMap Tryd.prog 3 anyE gm ((mapL hp).length + 1) ((mapD (mapL hp)).put (.int .i64 (j : Int)) (.held (.agg (onceC (j : Int) (ofL (linkAt z j) (j : Int)).key (nonceS b)).toArray)))) (hg : w.grownBy w' (some gm))
    (ha : Arr b8 w b 5 ((ofL (linkAt z j) (j : Int)).key ++ (ofL (linkAt z j) (j : Int)).nonce)) : HeldAt w' gm (hp ++ [(ofL (linkAt z j) (j : Int), b)]) ∧ (hp ++ [(ofL (linkAt z j) (j : Int), b)]).map Prod.fst = runL z 0 (j + 1) := by
  obtain ⟨es, ck, hb⟩ := h.map.obj
  have keep : ∀ (k : Nat) (xs : List (BitVec 8)), Arr b8 w k 5 xs → Arr b8 w' k 5 xs := fun k xs hx => hx.grown hg (fun e => by
    injection e with e
    unfold Arr at hx
    rw [← e, hx] at hb; cases hb)
  refine ⟨⟨?_, fun p hp' => ?_⟩, ?_⟩
  · rw [mapL_app]
    refine MapO.of (n := (mapL hp).length + 1) ?_
    have e := mapD_put (mapL hp) (j : Int) (.agg (onceC (j : Int) (ofL (linkAt z j) (j : Int)).key (nonceS b)).toArray) (fun p hp' => by
      obtain ⟨q, hq, rfl⟩ := List.mem_map.1 hp'
      have h1 : q.1 ∈ runL z 0 j := by rw [← hf]; exact List.mem_map.2 ⟨q, hq, rfl⟩
      obtain ⟨i, hi, h2⟩ := (mem_runL _ _ _ _).1 h1
      show q.1.no < (j : Int)
      rw [h2, ofL_no]; omega)
    rw [e] at hm
    exact hm
  · rcases List.mem_append.1 hp' with h1 | h1
    · exact keep _ _ (h.mem p h1)
    · rw [List.mem_singleton] at h1; subst h1; exact keep _ _ ha
  · rw [List.map_append, hf]
    show _ = runL z 0 j ++ [ofL (linkAt z j) (0 + (j : Int))]
    rw [Int.zero_add]; rfl
set_option maxRecDepth 100000 in
theorem fieldK (no : Int) (key : List (BitVec 8)) (v : Value) (h : key.length = 32) (w : World) : (Instr.field 32 (.agg (onceC no key v).toArray) 1).run Tryd.prog w = .ok (.agg (key.map b8).toArray) w := by
  obtain ⟨x0, x1, x2, x3, x4, x5, x6, x7, x8, x9, x10, x11, x12, x13, x14, x15, x16, x17, x18, x19, x20, x21, x22, x23, x24, x25, x26, x27, x28, x29, x30, x31, rfl⟩ := list_of32 h
  kernel_rfl
set_option maxRecDepth 100000 in
theorem fieldN (no : Int) (key : List (BitVec 8)) (v : Value) (h : key.length = 32) (w : World) : (Instr.field 32 (.agg (onceC no key v).toArray) 2).run Tryd.prog w = .ok v w := by
  obtain ⟨x0, x1, x2, x3, x4, x5, x6, x7, x8, x9, x10, x11, x12, x13, x14, x15, x16, x17, x18, x19, x20, x21, x22, x23, x24, x25, x26, x27, x28, x29, x30, x31, rfl⟩ := list_of32 h
  kernel_rfl
set_option maxRecDepth 100000 in
set_option maxHeartbeats 8000000 in
theorem chainOnce_walk (s : List (BitVec 8)) (hs : s.length = 32) (a : Int) (ha0 : -9223372036854775808 ≤ a) (ha1 : a < 9223372036854775808) (A : Option Addr) (n c : Nat) (xs : List Int) (w : World) (hr : Rd (Value.int .i64) w w.heap.size A xs) (hn : xs.length = n) (hT : Tab w) :
    Calls Tryd.prog 5 #[arrV b8 s, .int .i64 a, .slice A n c] w fun e w' => e = .returned (.bool true) ∧ Below w.heap.size w w' := by
  have HS := Lib.hid hs
  have HR := Lib.hid hr
  have HN := Lib.hid hn
  obtain ⟨w1, hw1⟩ : ∃ w1, w1 = w.alloc (.cells (s.map b8).toArray 23) := ⟨_, rfl⟩
  have HA1 := Lib.hid (show Arr b8 w1 w.heap.size 23 s by rw [hw1]; exact Arr.new b8 w 23 s)
  have HB1 := Lib.hid (show Below w.heap.size w w1 by rw [hw1]; exact (Below.refl _ w).alloc (Nat.le_refl _) _)
  have hzl : w.heap.size < w1.heap.size := by rw [hw1]; simp
  have HT1 := Lib.hid (hT.below HB1.out)
  have HAl := Lib.hid (alive19_any w1 HT1.out)
  have HW1 := Lib.hid hw1
  rw [arrV_mk]
  clear hs hw1 hr hn hT ha0 ha1
  by_cases hbig : 60 < n
  · have hb' : (n : Int) > 60 := by omega
    clear hbig
    go_enter Tryd.func5, Tryd.ntmps5
    go_upto_region 1 with fail
    rw [← HW1.out]
    go_wp2_with fail
    refine HAl.out.mono ?_
    rintro e w2 ⟨rfl, hb2⟩
    have HB2 := Lib.hid hb2
    have hs2 := hb2.size
    clear hb2
    go_wp2_with fail
    go_ret
    exact ⟨rfl, HB1.out.trans (HB2.out.mono (by omega))⟩
  have hb' : ¬ ((n : Int) > 60) := by omega
  go_enter Tryd.func5, Tryd.ntmps5
  go_upto_region 1 with fail
  rw [← HW1.out]
  go_wp2_with fail
  refine HAl.out.mono ?_
  rintro e w2 ⟨rfl, hb2⟩
  have HA2 := Lib.hid (HA1.out.below hb2 HA1.out.lt)
  have HT2 := Lib.hid (HT1.out.below hb2)
  have HBa := Lib.hid (HB1.out.trans (hb2.mono (by omega)))
  have hs2 := hb2.size
  clear hb2
  go_upto_region 6 with fail
  obtain ⟨i, hi4, hai⟩ := idx4 a
  rw [hai]
  clear hai
  have HNw := Lib.hid (show ∀ w', Below w2.heap.size w2 w' → Calls Tryd.prog 9 #[.agg (s.map b8).toArray, .int .i64 4] w' fun e w'' => ∃ gC gl gms, e = .returned (.pointer (some ⟨gC, 0, none⟩)) ∧ gms.length = 4 ∧ ChAt w'' gC gl (mkL (secs 2 s) gms) ∧ w'.heap.size ≤ gC ∧ w'.heap.size ≤ gl ∧ Below w'.heap.size w' w'' from fun w' hb => by
    have h := newc_any w' (HT2.out.below hb) s HS.out 2 (by decide)
    rw [arrV_mk, show ((2 ^ 2 : Nat) : Int) = 4 from rfl] at h
    exact h.mono (fun e w'' ⟨gC, gl, gms, h1, h2, h3, h4, h5, _, h6⟩ => ⟨gC, gl, gms, h1, h2, h3, h4, h5, h6⟩))
  have hk1 : w2.drew.rangeAt w.heap.size 0 (s.map b8) := HA2.out.drew.whole
  have HKeep := Lib.hid (show ∀ W', Below w2.heap.size w2 W' → W'.rangeAt w.heap.size 0 (s.map b8) from fun W' hb => (HA2.out.below hb HA2.out.lt).whole)
  have hu := Tryd.underlying23
  have hi32 : (Tryd.prog.info? 23).map (·.size) = some (s.map b8).length := by rw [List.length_map, HS.out]; exact size32
  --{R6
  refine wp_region_noPanic ?_
  refine wp_region_held_drew (S := fun w' => w'.rangeAt w.heap.size 0 (s.map b8)) (by kernel_rfl) hk1 (fun hS => ?_)
  refine wpAnyH_take (i := 0) (oi := { dst := some 31, op := _, type := _, pos := _, after := _, guard := _ }) (v := .agg (s.map b8).toArray) rfl (by kernel_rfl) (by kernel_rfl) (by kernel_rfl) (fun _ _ _ h => h) (yieldsIf_load_mid (by rfl) 23 (.tmp 3) rfl w.heap.size 0 rfl (s.map b8) _ (fun _ h => h) hu rfl hi32) hS ?_
  try simp only [Act.put, List.setIfInBounds_toArray, List.set_cons_zero, List.set_cons_succ]
  refine wpAnyH_take (i := 2) (oi := { dst := some 33, op := _, type := _, pos := _, after := _, guard := _ }) (v := .agg (s.map b8).toArray) rfl (by kernel_rfl) (by kernel_rfl) (by kernel_rfl) (fun _ _ _ h => h) (yieldsIf_load_mid (by rfl) 23 (.tmp 3) rfl w.heap.size 0 rfl (s.map b8) _ (fun _ h => h) hu rfl hi32) hS ?_
  try simp only [Act.put, List.setIfInBounds_toArray, List.set_cons_zero, List.set_cons_succ]
  refine wpAnyH_ready (rs := [1]) (by kernel_rfl) (by simp) (AllReadyH.cons (o := { dst := some 32, op := _, type := _, pos := _, after := _, guard := _ }) rfl (fun K' hK => ?_) AllReadyH.nil)
  go_simp
  go_at_call 9
  refine (HNw.out _ ((Below.refl _ w2).drew)).mono ?_
  rintro e w3 ⟨ga, gla, gmsA, rfl, hgA, hcA, hga, hgla, hb3⟩
  have HQ3 := Lib.hid (show Below w2.heap.size w2 w3 from (Below.refl _ w2).drew.trans hb3)
  have HCa3 := Lib.hid hcA
  have HGa := Lib.hid hgA
  have hs3 := HQ3.out.size
  have hga' : w2.heap.size ≤ ga := hga
  have hgla' : w2.heap.size ≤ gla := hgla
  clear hcA hgA hb3 hga hgla
  refine hK.out _ _ (HKeep.out _ HQ3.out) (fun hS => ?_)
  clear hK K'
  try simp only [Act.put, List.setIfInBounds_toArray, List.set_cons_zero, List.set_cons_succ]
  refine wpAnyH_ready (rs := [3]) (by kernel_rfl) (by simp) (AllReadyH.cons (o := { dst := some 34, op := _, type := _, pos := _, after := _, guard := _ }) rfl (fun K' hK => ?_) AllReadyH.nil)
  go_simp
  go_at_call 9
  refine (HNw.out _ HQ3.out).mono ?_
  rintro e w4 ⟨gb, glb, gmsB, rfl, hgB, hcB, hgb, hglb, hb4⟩
  have HQ4 := Lib.hid (HQ3.out.trans (hb4.mono HQ3.out.size))
  have HCa := Lib.hid (HCa3.out.below hb4)
  have HCb := Lib.hid hcB
  have HGb := Lib.hid hgB
  have hgl34 : gla < glb := by have := HCa3.out.lines.lt; omega
  clear hcB hgB hb4 HCa3 HQ3
  refine hK.out _ _ (HKeep.out _ HQ4.out) (fun hS => ?_)
  clear hK K'
  try simp only [Act.put, List.setIfInBounds_toArray, List.set_cons_zero, List.set_cons_succ]
  refine wpAnyH_ready (rs := [4]) (by kernel_rfl) (by simp) (AllReadyH.cons (o := { dst := some 7, op := _, type := _, pos := _, after := _, guard := _ }) rfl (fun K' hK => ?_) AllReadyH.nil)
  go_simp
  refine hK.out _ _ (HKeep.out _ HQ4.out) (fun hS => ?_)
  clear hK K'
  try simp only [Act.put, List.setIfInBounds_toArray, List.set_cons_zero, List.set_cons_succ]
  refine wpAnyH_ready (rs := [5]) (by kernel_rfl) (by simp) (AllReadyH.cons (o := { dst := some 8, op := _, type := _, pos := _, after := _, guard := _ }) rfl (fun K' hK => ?_) AllReadyH.nil)
  go_simp
  refine hK.out _ _ (HKeep.out _ HQ4.out) (fun hS => ?_)
  clear hK K'
  try simp only [Act.put, List.setIfInBounds_toArray, List.set_cons_zero, List.set_cons_succ]
  refine wpAnyH_done (by kernel_rfl) ?_ _
  refine NoPanic.normal ?_
  --}R6
  clear hu hi32 HKeep hk1 HNw
  have hs4 := HQ4.out.size
  obtain ⟨z, hz⟩ : ∃ z, z = leafS 4 i s := ⟨_, rfl⟩
  have HZl := Lib.hid (show z.length = 32 by rw [hz]; exact downS_len _ _ _ _ HS.out)
  have hml : ∀ gms : List Nat, gms.length = 4 → (mkL (secs 2 s) gms).length = 4 := fun gms h => by rw [mkL_len _ _ (by rw [secs_len, h]), secs_len]
  have hget : ∀ (gms : List Nat) (hg : gms.length = 4) (h : i < (mkL (secs 2 s) gms).length), (mkL (secs 2 s) gms)[i].l = startL z := fun gms hg h => by rw [hz]; exact mkL_get 2 i (by decide) hi4 s gms hg h
  obtain ⟨xa, hxa⟩ : ∃ xs, xs = mkL (secs 2 s) gmsA := ⟨_, rfl⟩
  obtain ⟨xb, hxb⟩ : ∃ xs, xs = mkL (secs 2 s) gmsB := ⟨_, rfl⟩
  have HXa := Lib.hid (show ∃ h : i < xa.length, xa[i].l = startL z ∧ xa.length = 4 from by rw [hxa]; exact ⟨by rw [hml _ HGa.out]; exact hi4, hget _ HGa.out _, hml _ HGa.out⟩)
  have HXb := Lib.hid (show ∃ h : i < xb.length, xb[i].l = startL z ∧ xb.length = 4 from by rw [hxb]; exact ⟨by rw [hml _ HGb.out]; exact hi4, hget _ HGb.out _, hml _ HGb.out⟩)
  rw [← hxa] at HCa
  rw [← hxb] at HCb
  obtain ⟨gm, hgm⟩ : ∃ gm, gm = w4.heap.size := ⟨_, rfl⟩
  have HXga := Lib.hid (show ∀ x ∈ xa, LP.gm x ≠ gm from fun x hx e => by have := HCa.out.gm_lt _ (List.mem_map.2 ⟨x, hx, rfl⟩); omega)
  have HXgb := Lib.hid (show ∀ x ∈ xb, LP.gm x ≠ gm from fun x hx e => by have := HCb.out.gm_lt _ (List.mem_map.2 ⟨x, hx, rfl⟩); omega)
  have HBb := Lib.hid (HBa.out.trans (HQ4.out.mono (by omega)))
  have hga4 : gla < w4.heap.size := HCa.out.lines.lt
  have hgb4 : glb < w4.heap.size := HCb.out.lines.lt
  have HG := Lib.hid hgm
  clear hml hget hz hxa hxb hgm HQ4 HA2 HT2 HT1 HA1 HAl
  have hmm := @run_makeMap Tryd.prog
  go_upto_region 8 with fail
  rw [← HG.out]
  have HM5 := Lib.hid (show HeldAt (w4.alloc (.map #[] 0)) gm [] from ⟨by rw [HG.out]; exact MapO.new w4, fun p hp => by cases hp⟩)
  have HCa5 := Lib.hid (HCa.out.below ((Below.refl _ w4).alloc (Nat.le_refl _) (.map #[] 0)))
  have HCb5 := Lib.hid (HCb.out.below ((Below.refl _ w4).alloc (Nat.le_refl _) (.map #[] 0)))
  have HB5 := Lib.hid (HBb.out.alloc (by omega) (.map #[] 0))
  generalize w4.alloc (.map #[] 0) = w5 at HM5 HCa5 HCb5 HB5 ⊢
  have hgmw : w.heap.size ≤ gm := by rw [HG.out]; omega
  have hgag : gla < gm := by rw [HG.out]; omega
  have hgbg : glb < gm := by rw [HG.out]; omega
  clear HCa HCb HBb HG
  go_wp2_with fail
  go_loopw [36] (fun v wr => ∃ (j : Nat) (ys : List LP) (h : i < ys.length) (hp : List (OnceM × Nat)), v = .int .i64 (j : Int) ∧ j ≤ 70 ∧ ys.length = 4 ∧ ys[i].l = lineJ z j ∧ ChAt wr ga gla ys ∧ ChAt wr gb glb xb ∧ HeldAt wr gm hp ∧ hp.map Prod.fst = runL z 0 j ∧ (∀ x ∈ ys, LP.gm x ≠ gm) ∧ Below w.heap.size w wr) (fun v _ => 70 - (intOf v).toNat)
  case atStart =>
    obtain ⟨h1, h2, h3⟩ := HXa.out
    exact ⟨0, xa, h1, [], rfl, by omega, h3, by rw [h2]; rfl, HCa5.out, HCb5.out, HM5.out, rfl, HXga.out, HB5.out⟩
  case round =>
    clear HM5 HCa5 HCb5 HB5
    obtain ⟨j, ys, hyi, hp, rfl, hj, hyl, hyj, hca, hcb, hh, hf, hgy, hb⟩ := hrel
    have HB := Lib.hid hb
    have HCa := Lib.hid hca
    have HCb := Lib.hid hcb
    have HH := Lib.hid hh
    have HF := Lib.hid hf
    have HGy := Lib.hid hgy
    have HYl := Lib.hid hyl
    have hsw := hb.size
    have hgmr : gm < wr.heap.size := hh.map.lt
    by_cases hlt : j < 70
    · have hE : takeE ys[i].l ys[i].l.place = 0 := by rw [hyj]; exact lineJ_takeE z j (by omega)
      have hn := next_okG wr ga gla ys hca i hyi (by omega) hE
      rw [hyj, show (lineJ z j).place = (j : Int) from rfl, lineJ_takeO z j (by omega), lineJ_takeL] at hn
      have HNx := Lib.hid hn
      have HKl := Lib.hid (ofL_key (linkAt z j) (j : Int))
      clear hn hE hyj hca hcb hh hf hgy hb hyl
      have lj : (j : Int) < 70 := by omega
      go_wp2_with fail
      refine HNx.out.mono ?_
      rintro e w6 ⟨b, y, rfl, hA6, hyl6, hC6, -, hg6, hgm6⟩
      have HB6 := Lib.hid (HB.out.grown hg6 HB.out.size (fun k e => by cases e; omega))
      have HC6 := Lib.hid hC6
      have HCb6 := Lib.hid (HCb.out.apart HCa.out hg6 (by omega))
      have HH6 := Lib.hid (HH.out.cells HCa.out.lines (by decide) hg6)
      have HA6 := Lib.hid hA6
      have HY6 := Lib.hid hyl6
      have hz6 := hg6.size
      have hgy' : ∀ x ∈ ys.set i y, LP.gm x ≠ gm := fun x hx => by
        rcases List.mem_or_eq_of_mem_set hx with h | h
        · exact HGy.out x h
        · subst h; omega
      have HGy6 := Lib.hid hgy'
      clear hA6 hyl6 hC6 hg6 hgy' HNx
      have HZ7 := Lib.hid (show Blk (w6.alloc (.cells zeroOnce.toArray 32)) w6.heap.size 32 zeroOnce from Blk.new _ _ _)
      go_upto_region 12 with (refine wpList_store_piece rfl 32 (.tmp 11) (.tmp 43) rfl w6.heap.size 0 rfl (onceC (j : Int) (ofL (linkAt z j) (j : Int)).key (nonceS b)) rfl 32 _ [] zeroOnce [] HZ7.out (by simp) rfl (by rw [onceC_len _ _ _ HKl.out]; rfl) (by rw [onceC_len _ _ _ HKl.out];exact sizeOnce) (onceC_one _ _ _ _ _) ?_; intro w7 hx7 hg7)
      have HK7 := Lib.hid (show Below w6.heap.size w6 w7 from ((Below.refl _ w6).alloc (Nat.le_refl _) _).grown hg7 (by simp) (fun k e => by cases e; exact Nat.le_refl _))
      have HX7 := Lib.hid (show Blk w7 w6.heap.size 32 (onceC (j : Int) (ofL (linkAt z j) (j : Int)).key (nonceS b)) from hx7.cast (by simp))
      have hz7 : w6.heap.size + 1 ≤ w7.heap.size := by have := hg7.size; simpa using this
      clear hx7 hg7 HZ7
      have HB7 := Lib.hid (HB6.out.trans (HK7.out.mono (by omega)))
      have HC7 := Lib.hid (HC6.out.below HK7.out)
      have HCb7 := Lib.hid (HCb6.out.below HK7.out)
      have HH7 := Lib.hid (HH6.out.keep HK7.out)
      have HA7 := Lib.hid (HA6.out.below HK7.out HA6.out.lt)
      have c0 := HX7.out.cell 0 (u := .int .i64 (j : Int)) rfl
      have hkey := keyI (a := (j : Int)) (by omega) (by omega)
      have hval := onceK j (ofL (linkAt z j) (j : Int)).key b HKl.out
      have hln : (mapL hp).length < maxLen := by
        have h := congrArg List.length HF.out
        rw [List.length_map, runL_len] at h
        unfold mapL maxLen
        rw [List.length_map, h]; omega
      clear HB6 HC6 HCb6 HH6 HA6 HK7
      go_wp2_with (first
        | (refine wpList_load_mid rfl 32 (.tmp 11) rfl w6.heap.size 0 rfl (onceC (j : Int) (ofL (linkAt z j) (j : Int)).key (nonceS b)) _ HX7.out.whole Tryd.underlying32 rfl (by rw [onceC_len _ _ _ HKl.out]; exact sizeOnce) ?_)
        | (at_mapUpdate; refine wpList_mapUpdate_own _ rfl _ _ _ 47 rfl 3 32 intKey Tryd.underlying47 anyE gm _ _ rfl HH7.out.map hln _ _ (.int .i64 (j : Int)) rfl rfl hkey _ [] hval ?_; intro w8 hm8 hg8))
      obtain ⟨h1, h2⟩ := heldAt_put HH7.out HF.out hm8 hg8 HA7.out
      obtain ⟨es, ck, hob⟩ := HH7.out.map.obj
      refine ⟨⟨j + 1, ys.set i y, by rw [List.length_set]; exact hyi, _, by go_num, by omega, by rw [List.length_set]; exact HYl.out, by rw [List.getElem_set_self]; exact HY6.out, HC7.out.mapTurn hob HGy6.out hg8, HCb7.out.mapTurn hob HXgb.out hg8, h1, h2, HGy6.out, HB7.out.grown hg8 HB7.out.size (fun k e => by cases e; omega)⟩, ?_⟩
      simp [intOf] <;> omega
    · obtain rfl : j = 70 := by omega
      clear hyj hca hcb hh hf hgy hb hyl HCa HGy HYl
      obtain ⟨gt, hgt⟩ : ∃ gt, gt = wr.heap.size := ⟨_, rfl⟩
      have HXgt := Lib.hid (show ∀ x ∈ xb, LP.gm x ≠ gt from fun x hx e => by have := HCb.out.gm_lt _ (List.mem_map.2 ⟨x, hx, rfl⟩); omega)
      have HGt := Lib.hid hgt
      have hgmt : gm < gt := by omega
      have hgtw : w.heap.size ≤ gt := by omega
      have hgbt : glb < gt := by omega
      have hmm := @run_makeMap Tryd.prog
      clear hgt
      rw [show (((70 : Nat)) : Int) = 70 from rfl]
      go_upto_region 17 with fail
      rw [← HGt.out]
      clear hmm
      have HT0 := Lib.hid (show MapT (wr.alloc (.map #[] 0)) gt 0 (.map []) from by rw [HGt.out]; exact World.ownsMap_made wr _ _ _)
      have HCb1 := Lib.hid (HCb.out.below ((Below.refl _ wr).alloc (Nat.le_refl _) (.map #[] 0)))
      have HH1 := Lib.hid (HH.out.keep ((Below.refl _ wr).alloc (Nat.le_refl _) (.map #[] 0)))
      have HBx := Lib.hid (HB.out.alloc hsw (.map #[] 0))
      generalize wr.alloc (.map #[] 0) = wt at HT0 HCb1 HH1 HBx ⊢
      clear HCb HH HB HGt hgmr hsw
      go_wp2_with fail
      go_loopw [14, 60] (fun hv v wq => ∃ (j : Nat) (ys : List LP) (h : i < ys.length) (D : DataW Value), hv = .int .i64 (ys[i].l.place - 1) ∧ v = .int .i64 (j : Int) ∧ j ≤ n ∧ ys.length = 4 ∧ ys[i].l.place ≤ 70 ∧ OfZ z ys[i].l ∧ ChAt wq gb glb ys ∧ HeldAt wq gm hp ∧ MapT wq gt j D ∧ TimesD D ys[i].l.asked ∧ (∀ x ∈ ys, LP.gm x ≠ gt) ∧ Below w.heap.size w wq) (fun _ v _ => n - (intOf v).toNat)
      case atStart =>
        obtain ⟨h1, h2, h3⟩ := HXb.out
        exact ⟨0, xb, h1, .map [], by rw [h2]; rfl, rfl, by omega, h3, by rw [h2]; show (0 : Int) ≤ 70; omega, by rw [h2]; exact OfZ.start z, HCb1.out, HH1.out, HT0.out, by rw [h2]; exact TimesD.start, HXgt.out, HBx.out⟩
      case round =>
        clear HT0 HCb1 HH1 HBx
        obtain ⟨j, ys, hyi, D, rfl, rfl, hj, hyl, hpl, hz, hcb, hh, hmt, htd, hgy, hb⟩ := hrel
        have HB := Lib.hid hb
        have HC := Lib.hid hcb
        have HH := Lib.hid hh
        have HMt := Lib.hid hmt
        have HTd := Lib.hid htd
        have HGy := Lib.hid hgy
        have HYl := Lib.hid hyl
        have HZ := Lib.hid hz
        have hok := (hcb.ok _ (List.getElem_mem hyi)).lok
        have HOk := Lib.hid hok
        have hsw := hb.size
        have hgtr : gt < wr.heap.size := World.ownsMap.lt hmt
        have hp0 : 0 ≤ ys[i].l.place := by have := hok.lowp; have := hok.low0; omega
        by_cases hlt : j < n
        · have hjl : j < xs.length := by rw [HN.out]; exact hlt
          obtain ⟨b0, o0, rfl, hB0, hc0⟩ := (HR.out.below HB.out).at_ hjl
          generalize xs[j] = x at hc0
          have lj : (j : Int) < (n : Int) := by omega
          clear hyl hz hcb hh hmt htd hgy hb hok
          obtain ⟨P, hP⟩ : ∃ P, P = ys[i].l.place := ⟨_, rfl⟩
          rw [← hP] at hpl hp0
          simp only [← hP]
          have HPe := Lib.hid hP
          clear hP
          go_upto_region 22 with fail
          obtain ⟨m, hm, hmx⟩ := idx70 x
          rw [hmx]
          clear hmx hc0
          have hyb : ys.length ≤ 1000 := by rw [HYl.out]; decide
          by_cases hE : takeE ys[i].l (m : Int) = 0
          · obtain ⟨O, hO⟩ : ∃ O, O = ofL (linkAt z m) (m : Int) := ⟨_, rfl⟩
            have hto := HZ.out.takeO HOk.out hE
            rw [Int.toNat_natCast, ← hO] at hto
            have HKl := Lib.hid (show O.key.length = 32 by rw [hO]; exact ofL_key _ _)
            have HNl := Lib.hid (show O.nonce.length = 12 by rw [hO]; exact ofL_nonce _ _)
            have HLk := Lib.hid (look_ok wr gb glb ys HC.out i hyi hyb (m : Int) hE)
            have HE := Lib.hid hE
            have HTk := Lib.hid (fun w2 (hb2 : Below wr.heap.size wr w2) => ctake_okG w2 gb glb ys (HC.out.below hb2) i hyi hyb (m : Int) HE.out)
            rw [hto] at HLk HTk
            have hna : (m : Int) ∉ ys[i].l.asked := (takeE_zero hE).2.2.2.2.1
            have HZ' := Lib.hid (HZ.out.takeL HOk.out hE)
            have HTd' := Lib.hid (show TimesD (D.put (.int .i64 (m : Int)) (.lit (.int .i64 1))) (takeL ys[i].l (m : Int)).asked from HTd.out.put m)
            have HPl := Lib.hid (show (takeL ys[i].l (m : Int)).place = if P ≤ (m : Int) then (m : Int) + 1 else P by rw [HPe.out]; exact takeL_place)
            obtain ⟨L, hL⟩ : ∃ L, L = takeL ys[i].l (m : Int) := ⟨_, rfl⟩
            rw [← hL] at HTk HZ' HTd' HPl
            have HNa := Lib.hid hna
            obtain ⟨q, hq, hqo⟩ : ∃ q ∈ hp, q.1 = O := by
              have h : O ∈ hp.map Prod.fst := by
                rw [HF.out, mem_runL]
                exact ⟨m, hm, by rw [hO, Int.zero_add]⟩
              obtain ⟨q, hq, e⟩ := List.mem_map.1 h
              exact ⟨q, hq, e⟩
            have HQ := Lib.hid hq
            have HQo := Lib.hid hqo
            have HOno := Lib.hid (show O.no = (m : Int) by rw [hO]; exact ofL_no _ _)
            have hm0 : (0 : Int) ≤ (m : Int) := by omega
            clear hE hto hna hO hL hq hqo
            go_wp2_with fail
            refine HLk.out.mono ?_
            rintro e w4 ⟨g, cg, rfl, hg, -, hb4⟩
            have HB4 := Lib.hid hb4
            have hz4 := hb4.size
            clear hb4
            have HZ5 := Lib.hid (show Blk (w4.alloc (.cells zeroOnce.toArray 32)) w4.heap.size 32 zeroOnce from Blk.new _ _ _)
            go_upto_region 23 with (refine wpList_store_piece rfl 32 (.tmp 18) (.tmp 73) rfl w4.heap.size 0 rfl (onceC (m : Int) O.key (.slice (some ⟨g, 0, none⟩) 12 cg)) rfl 32 _ [] zeroOnce [] HZ5.out (by simp) rfl (by rw [onceC_len _ _ _ HKl.out]; rfl) (by rw [onceC_len _ _ _ HKl.out];exact sizeOnce) (onceC_one _ _ _ _ _) ?_; intro w5 hx5 hg5)
            have HK5 := Lib.hid (show Below w4.heap.size w4 w5 from ((Below.refl _ w4).alloc (Nat.le_refl _) _).grown hg5 (by simp) (fun k e => by cases e; exact Nat.le_refl _))
            have HX5 := Lib.hid (show Blk w5 w4.heap.size 32 (onceC (m : Int) O.key (.slice (some ⟨g, 0, none⟩) 12 cg)) from hx5.cast (by simp))
            have hz5 : w4.heap.size + 1 ≤ w5.heap.size := by have := hg5.size; simpa using this
            clear hx5 hg5 HZ5
            have HB5 := Lib.hid (HB4.out.trans (HK5.out.mono (by omega)))
            have HT5 := Lib.hid (HTk.out w5 HB5.out)
            go_wp2_with fail
            refine HT5.out.mono ?_
            rintro e w6 ⟨b, y, rfl, hA6, hyl6, hC6, -, hg6, hgm6⟩
            have hgl5 : glb < wr.heap.size := HC.out.lines.lt
            have HX6 := Lib.hid (HX5.out.grown hg6 (fun e => by injection e with e; omega))
            have HB6 := Lib.hid (show Below w.heap.size w w6 from (HB.out.trans (HB5.out.mono (by omega))).grown hg6 (by omega) (fun k e => by cases e; omega))
            have HH6 := Lib.hid ((HH.out.keep HB5.out).cells (HC.out.below HB5.out).lines (by decide) hg6)
            have HM6 := Lib.hid (show MapT w6 gt j D from World.ownsMap.kept (show World.ownsMap w5 _ _ _ _ _ _ from World.ownsMap.kept HMt.out (row := none) ⟨HB5.out.os, HB5.out.tape, HB5.out.output, HB5.out.size, fun k hk _ => HB5.out.block k hk⟩ (by simp)) hg6 (fun e => by injection e with e; omega))
            have HC6 := Lib.hid hC6
            have HA6 := Lib.hid hA6
            have HY6 := Lib.hid hyl6
            have hz6 := hg6.size
            have HGy6 := Lib.hid (show ∀ x ∈ ys.set i y, LP.gm x ≠ gt from fun x hx => by
              rcases List.mem_or_eq_of_mem_set hx with h | h
              · exact HGy.out x h
              · subst h; omega)
            clear hA6 hC6 hyl6 hg6
            have HZ7 := Lib.hid (show Blk (w6.alloc (.cells zeroOnce.toArray 32)) w6.heap.size 32 zeroOnce from Blk.new _ _ _)
            go_upto_region 24 with (refine wpList_store_piece rfl 32 (.tmp 20) (.tmp 80) rfl w6.heap.size 0 rfl (onceC (m : Int) O.key (nonceS b)) rfl 32 _ [] zeroOnce [] HZ7.out (by simp) rfl (by rw [onceC_len _ _ _ HKl.out]; rfl) (by rw [onceC_len _ _ _ HKl.out];exact sizeOnce) (onceC_one _ _ _ _ _) ?_; intro w7 hx7 hg7)
            have HK7 := Lib.hid (show Below w6.heap.size w6 w7 from ((Below.refl _ w6).alloc (Nat.le_refl _) _).grown hg7 (by simp) (fun k e => by cases e; exact Nat.le_refl _))
            have HX7 := Lib.hid (show Blk w7 w6.heap.size 32 (onceC (m : Int) O.key (nonceS b)) from hx7.cast (by simp))
            have hz7 : w6.heap.size + 1 ≤ w7.heap.size := by have := hg7.size; simpa using this
            clear hx7 hg7 HZ7
            have HB7 := Lib.hid (HB6.out.trans (HK7.out.mono (by omega)))
            have hk7 : w7.drew.rangeAt w4.heap.size 1 (O.key.map b8) ∧ w7.drew.rangeAt w6.heap.size 1 (O.key.map b8) := ⟨onceC_rngO w7.drew _ _ _ O.key _ HKl.out (HX6.out.below HK7.out (by omega)).drew, onceC_rngO w7.drew _ _ _ O.key _ HKl.out HX7.out.drew⟩
            have heq := key_eqO O.key HKl.out
            have hu := Tryd.underlying29
            have hi32 : (Tryd.prog.info? 29).map (·.size) = some (O.key.map b8).length := by rw [List.length_map, HKl.out]; exact sizeKey
            clear HX5 HX6
  --{R24a
            refine wp_region_noPanic ?_
            refine wp_region_held_drew (S := fun w' => w'.rangeAt w4.heap.size 1 (O.key.map b8) ∧ w'.rangeAt w6.heap.size 1 (O.key.map b8)) (by kernel_rfl) hk7 (fun hS => ?_)
            refine wpAnyH_take (i := 0) (oi := { dst := some 82, op := _, type := _, pos := _, after := _, guard := _ }) (v := .nilIface) rfl (by kernel_rfl) (by kernel_rfl) (by kernel_rfl) (fun _ _ _ h => h) (Or.inl ⟨by rfl, ?_⟩) hS ?_
            · intro w' hw'
              go_simp
            try simp only [Act.put, List.setIfInBounds_toArray, List.set_cons_zero, List.set_cons_succ]
            refine wpAnyH_take (i := 1) (oi := { dst := some 83, op := _, type := _, pos := _, after := _, guard := _ }) (v := .bool true) rfl (by kernel_rfl) (by kernel_rfl) (by kernel_rfl) (fun _ _ _ h => h) (Or.inl ⟨by rfl, ?_⟩) hS ?_
            · intro w' hw'
              go_simp
            try simp only [Act.put, List.setIfInBounds_toArray, List.set_cons_zero, List.set_cons_succ]
            refine wpAnyH_take (i := 2) (oi := { dst := some 84, op := _, type := _, pos := _, after := _, guard := _ }) (v := .nilIface) rfl (by kernel_rfl) (by kernel_rfl) (by kernel_rfl) (fun _ _ _ h => h) (Or.inl ⟨by rfl, ?_⟩) hS ?_
            · intro w' hw'
              go_simp
            try simp only [Act.put, List.setIfInBounds_toArray, List.set_cons_zero, List.set_cons_succ]
            refine wpAnyH_take (i := 3) (oi := { dst := some 85, op := _, type := _, pos := _, after := _, guard := _ }) (v := .bool true) rfl (by kernel_rfl) (by kernel_rfl) (by kernel_rfl) (fun _ _ _ h => h) (Or.inl ⟨by rfl, ?_⟩) hS ?_
            · intro w' hw'
              go_simp
            try simp only [Act.put, List.setIfInBounds_toArray, List.set_cons_zero, List.set_cons_succ]
            refine wpAnyH_take (i := 4) (oi := { dst := some 86, op := _, type := _, pos := _, after := _, guard := _ }) (v := .bool false) rfl (by kernel_rfl) (by kernel_rfl) (by kernel_rfl) (fun _ _ _ h => h) (Or.inl ⟨by rfl, ?_⟩) hS ?_
            · intro w' hw'
              go_simp
            try simp only [Act.put, List.setIfInBounds_toArray, List.set_cons_zero, List.set_cons_succ]
            refine wpAnyH_take (i := 5) (oi := { dst := some 87, op := _, type := _, pos := _, after := _, guard := _ }) (v := .bool false) rfl (by kernel_rfl) (by kernel_rfl) (by kernel_rfl) (fun _ _ _ h => h) (Or.inl ⟨by rfl, ?_⟩) hS ?_
            · intro w' hw'
              go_simp
            try simp only [Act.put, List.setIfInBounds_toArray, List.set_cons_zero, List.set_cons_succ]
            refine wpAnyH_take (i := 6) (oi := { dst := some 88, op := _, type := _, pos := _, after := _, guard := _ }) (v := .pointer (some ⟨w4.heap.size, 1, none⟩)) rfl (by kernel_rfl) (by kernel_rfl) (by kernel_rfl) (fun _ _ _ h => h) (Or.inl ⟨by rfl, ?_⟩) hS ?_
            · intro w' hw'
              go_simp
            try simp only [Act.put, List.setIfInBounds_toArray, List.set_cons_zero, List.set_cons_succ]
            refine wpAnyH_take (i := 7) (oi := { dst := some 89, op := _, type := _, pos := _, after := _, guard := _ }) (v := .agg (O.key.map b8).toArray) rfl (by kernel_rfl) (by kernel_rfl) (by kernel_rfl) (fun _ _ _ h => h) (yieldsIf_load_mid (by rfl) 29 (.tmp 88) rfl w4.heap.size 1 rfl (O.key.map b8) _ (fun _ h => h.1) hu rfl hi32) hS ?_
            try simp only [Act.put, List.setIfInBounds_toArray, List.set_cons_zero, List.set_cons_succ]
            refine wpAnyH_take (i := 8) (oi := { dst := some 90, op := _, type := _, pos := _, after := _, guard := _ }) (v := .pointer (some ⟨w6.heap.size, 1, none⟩)) rfl (by kernel_rfl) (by kernel_rfl) (by kernel_rfl) (fun _ _ _ h => h) (Or.inl ⟨by rfl, ?_⟩) hS ?_
            · intro w' hw'
              go_simp
            try simp only [Act.put, List.setIfInBounds_toArray, List.set_cons_zero, List.set_cons_succ]
            refine wpAnyH_take (i := 9) (oi := { dst := some 91, op := _, type := _, pos := _, after := _, guard := _ }) (v := .agg (O.key.map b8).toArray) rfl (by kernel_rfl) (by kernel_rfl) (by kernel_rfl) (fun _ _ _ h => h) (yieldsIf_load_mid (by rfl) 29 (.tmp 90) rfl w6.heap.size 1 rfl (O.key.map b8) _ (fun _ h => h.2) hu rfl hi32) hS ?_
            try simp only [Act.put, List.setIfInBounds_toArray, List.set_cons_zero, List.set_cons_succ]
            refine wpAnyH_take (i := 10) (oi := { dst := some 92, op := _, type := _, pos := _, after := _, guard := _ }) (v := .bool false) rfl (by kernel_rfl) (by kernel_rfl) (by kernel_rfl) (fun _ _ _ h => h) (Or.inl ⟨by rfl, ?_⟩) hS ?_
            · intro w' hw'
              go_simp
            try simp only [Act.put, List.setIfInBounds_toArray, List.set_cons_zero, List.set_cons_succ]
            refine wpAnyH_take (i := 11) (oi := { dst := some 93, op := _, type := _, pos := _, after := _, guard := _ }) (v := .bool false) rfl (by kernel_rfl) (by kernel_rfl) (by kernel_rfl) (fun _ _ _ h => h) (Or.inl ⟨by rfl, ?_⟩) hS ?_
            · intro w' hw'
              go_simp
            try simp only [Act.put, List.setIfInBounds_toArray, List.set_cons_zero, List.set_cons_succ]
            refine wpAnyH_done (by kernel_rfl) ?_ _
            refine NoPanic.normal ?_
  --}R24a
            have hbd : Below w7.heap.size w7 w7.drew := (Below.refl _ w7).drew
            have HB8 := Lib.hid (HB7.out.trans (hbd.mono HB7.out.size))
            have HC8 := Lib.hid ((HC6.out.below HK7.out).below hbd)
            have HH8 := Lib.hid ((HH6.out.keep HK7.out).keep hbd)
            have HX8 := Lib.hid HX7.out.drew
            have hA7 := HA6.out.below HK7.out HA6.out.lt
            have HA8 := Lib.hid (hA7.below hbd hA7.lt)
            have HM8 := Lib.hid (show MapT w7.drew gt j D from World.ownsMap.kept (row := none) HM6.out ⟨HK7.out.os, HK7.out.tape, HK7.out.output, HK7.out.size, fun k hk _ => HK7.out.block k hk⟩ (by simp))
            have HI := Lib.hid hi32
            have hz8 : w7.heap.size ≤ w7.drew.heap.size := hbd.size
            generalize w7.drew = w8 at HB8 HC8 HH8 HX8 HA8 HM8 hz8 ⊢
            clear hk7 hbd HX7 HC6 HH6 HA6 HM6 hA7 hu hi32
            have hlk := HM8.out.run HTd.out hm (c := 0) (by rw [if_neg HNa.out])
            have hkey := keyI (a := (m : Int)) (by omega) (by omega)
            have hval : plainElem Tryd.prog 3 (.int .i64 1) = some ((.lit (.int .i64 1) : DataW Value), []) := plainElem_int Tryd.underlying3 (by decide)
            have hjm : j < maxLen := by unfold maxLen; omega
            go_upto_region 28 with (at_mapUpdate; refine wpList_mapUpdate_own _ rfl _ _ _ 48 rfl 3 3 intKey Tryd.underlying48 (plainElem Tryd.prog 3) gt j D rfl HM8.out hjm _ _ (.int .i64 (m : Int)) rfl rfl hkey (.lit (.int .i64 1)) [] hval ?_; intro w9 hm9 hg9)
            obtain ⟨es, ck, hob⟩ : ∃ es ck, w8.heap[gt]? = some (.map es ck) := by
              obtain ⟨es, ck, h, -⟩ := HM8.out
              exact ⟨es, ck, h⟩
            have HB9 := Lib.hid (HB8.out.grown hg9 HB8.out.size (fun k e => by cases e; omega))
            have HC9 := Lib.hid (HC8.out.mapTurn hob HGy6.out hg9)
            have HH9 := Lib.hid (HH8.out.mapTurn hob (by omega) hg9)
            have HX9 := Lib.hid (HX8.out.grown hg9 (fun e => by injection e with e; omega))
            have HA9 := Lib.hid (HA8.out.grown hg9 (fun e => by
              injection e with e
              have h1 := HA8.out
              unfold Arr at h1
              rw [← e, h1] at hob; cases hob))
            have HM9 := Lib.hid (show MapT w9 gt (j + 1) (D.put (.int .i64 (m : Int)) (.lit (.int .i64 1))) from hm9)
            have hmask : (m : Int) ∈ L.asked := by
              have h := (HTd'.out.at_ m hm)
              rw [show (D.put (.int .i64 (m : Int)) (.lit (.int .i64 1))).atKey (.int .i64 (m : Int)) (.lit (.int .i64 0)) = (.lit (.int .i64 1) : DataW Value) from Maps.atKey_put_same HTd.out.map (show WideAt.IsKeyLit (.int .i64 (m : Int)) from trivial) _ _] at h
              apply Decidable.byContradiction
              intro hc
              rw [if_neg hc] at h
              cases h
            have hlk2 := HM9.out.run HTd'.out hm (c := 1) (by rw [if_pos hmask])
            have hby := HH9.out.look (by rw [HF.out]; exact runL_rise _ _ _) HQ.out (by rw [HQo.out, HOno.out]; omega) (by rw [HQo.out, HOno.out]; omega) (zv := .agg zeroOnce.toArray) (by kernel_rfl) (onceB_mk rfl (onceC_one _ _ _ _ _))
            rw [HQo.out, HOno.out] at hby
            have hAq := HH9.out.mem _ HQ.out
            rw [HQo.out] at hAq
            have rAq : Rd b8 w9 (q.2 + 1) (some ⟨q.2, 32, none⟩) O.nonce := by
              have h := hAq.rd 32
              rwa [show (O.key ++ O.nonce).drop 32 = O.nonce by rw [← HKl.out, List.drop_left]] at h
            have rAb : Rd b8 w9 (b + 1) (some ⟨b, 32, none⟩) O.nonce := by
              have h := HA9.out.rd 32
              rwa [show (O.key ++ O.nonce).drop 32 = O.nonce by rw [← HKl.out, List.drop_left]] at h
            have HSm := Lib.hid (same_any 12 12 rAb rAq HNl.out HNl.out)
            have hf1 := fieldK (m : Int) O.key (nonceS q.2) HKl.out
            have hf2 : ∀ w, (Instr.field 32 (.agg (onceC (m : Int) O.key (nonceS q.2)).toArray) 2).run Tryd.prog w = .ok (.slice (some ⟨q.2, 32, none⟩) 12 12) w := fieldN (m : Int) O.key (nonceS q.2) HKl.out
            have HR9 := Lib.hid (onceC_rngO w9 _ _ _ O.key _ HKl.out HX9.out)
            have c33 := HX9.out.cell 33 (u := nonceS b) (onceC_33 _ _ _ HKl.out)
            unfold nonceS at c33
            rw [beq_self_eq_true] at HSm
            have HBf := Lib.hid (show ∀ q : Int, q = L.place - 1 → q = L.place - 1 from fun _ h => h)
            have hmx1 : (if P - 1 < (m : Int) then (m : Int) else P - 1) = L.place - 1 := by
              rw [HPl.out]
              by_cases h : P ≤ (m : Int)
              · rw [if_pos h, if_pos (by omega)]; omega
              · rw [if_neg h, if_neg (by omega)]
            have hmx2 : (if P ≤ (m : Int) then (m : Int) else P - 1) = L.place - 1 := by
              rw [← hmx1]
              by_cases h : P ≤ (m : Int)
              · rw [if_pos h, if_pos (by omega)]
              · rw [if_neg h, if_neg (by omega)]
            have HLp := Lib.hid (show L.place ≤ 70 by rw [HPl.out]; split <;> omega)
            clear hlk hval hkey hjm hob hm9 hg9 hmask hAq rAq rAb
            go_upto_region 29 with fail
            clear hmx1 hmx2
            go_wp2_with (refine wpList_load_midw (by first | rfl | go_simp) 29 (.tmp 108) rfl w6.heap.size 1 rfl (O.key.map b8) _ HR9.out Tryd.underlying29 rfl HI.out ?_)
            refine HSm.out.mono ?_
            rintro e w' ⟨rfl, rfl⟩
            go_wp2_with fail
            go_roundw
            case rel => exact ⟨j + 1, ys.set i y, by rw [List.length_set]; exact hyi, D.put (.int .i64 (m : Int)) (.lit (.int .i64 1)), by rw [List.getElem_set_self, HY6.out], by go_num, by omega, by rw [List.length_set]; exact HYl.out, by rw [List.getElem_set_self, HY6.out]; exact HLp.out, by rw [List.getElem_set_self, HY6.out]; exact HZ'.out, HC9.out, HH9.out, HM9.out, by rw [List.getElem_set_self, HY6.out]; exact HTd'.out, HGy6.out, HB9.out⟩
            case measure => simp [intOf] <;> omega
          · obtain ⟨E, hEe⟩ : ∃ E, takeE ys[i].l (m : Int) = E := ⟨_, rfl⟩
            have hE0 : E ≠ 0 := by rw [← hEe]; exact hE
            have HE := Lib.hid hE
            have hLk := look_bad wr gb glb ys HC.out i hyi hyb (m : Int) hE
            rw [hEe, errV_pos hE0] at hLk
            have HLk := Lib.hid hLk
            have HTk := Lib.hid (fun w2 (hb2 : Below wr.heap.size wr w2) => ctake_bad w2 gb glb ys (HC.out.below hb2) i hyi hyb (m : Int) HE.out)
            rw [hEe, errV_pos hE0] at HTk
            obtain ⟨Z, hZ⟩ : ∃ Z : List (BitVec 8), Z = List.replicate 32 0#8 := ⟨_, rfl⟩
            have HZl' := Lib.hid (show Z.length = 32 by rw [hZ]; exact List.length_replicate)
            have HZe := Lib.hid (show zeroOnce = onceC 0 Z (.slice none 0 0) by rw [hZ]; rfl)
            have hm0 : (0 : Int) ≤ (m : Int) := by omega
            clear hE hEe hE0 hLk hZ
            go_wp2_with fail
            refine HLk.out.mono ?_
            rintro e w4 ⟨rfl, hb4⟩
            have HB4 := Lib.hid hb4
            have hz4 := hb4.size
            clear hb4
            have HZ5 := Lib.hid (show Blk (w4.alloc (.cells zeroOnce.toArray 32)) w4.heap.size 32 zeroOnce from Blk.new _ _ _)
            go_upto_region 23 with (refine wpList_store_piece rfl 32 (.tmp 18) (.tmp 73) rfl w4.heap.size 0 rfl (zeroOnce) rfl 32 _ [] zeroOnce [] HZ5.out (by simp) rfl (by rfl) (by exact sizeOnce) (onceC_one _ _ _ _ _) ?_; intro w5 hx5 hg5)
            have HK5 := Lib.hid (show Below w4.heap.size w4 w5 from ((Below.refl _ w4).alloc (Nat.le_refl _) _).grown hg5 (by simp) (fun k e => by cases e; exact Nat.le_refl _))
            have HX5 := Lib.hid (show Blk w5 w4.heap.size 32 (zeroOnce) from hx5.cast (by simp))
            have hz5 : w4.heap.size + 1 ≤ w5.heap.size := by have := hg5.size; simpa using this
            clear hx5 hg5 HZ5
            have HB5 := Lib.hid (HB4.out.trans (HK5.out.mono (by omega)))
            have HT5 := Lib.hid (HTk.out w5 HB5.out)
            go_wp2_with fail
            refine HT5.out.mono ?_
            rintro e w6 ⟨rfl, hb6⟩
            have HX6 := Lib.hid (HX5.out.below hb6 (by omega))
            have HBr6 := Lib.hid (HB5.out.trans (hb6.mono HB5.out.size))
            have hz6 := hb6.size
            clear hb6
            have HZ7 := Lib.hid (show Blk (w6.alloc (.cells zeroOnce.toArray 32)) w6.heap.size 32 zeroOnce from Blk.new _ _ _)
            go_upto_region 24 with (refine wpList_store_piece rfl 32 (.tmp 20) (.tmp 80) rfl w6.heap.size 0 rfl (zeroOnce) rfl 32 _ [] zeroOnce [] HZ7.out (by simp) rfl (by rfl) (by exact sizeOnce) (onceC_one _ _ _ _ _) ?_; intro w7 hx7 hg7)
            have HK7 := Lib.hid (show Below w6.heap.size w6 w7 from ((Below.refl _ w6).alloc (Nat.le_refl _) _).grown hg7 (by simp) (fun k e => by cases e; exact Nat.le_refl _))
            have HX7 := Lib.hid (show Blk w7 w6.heap.size 32 (zeroOnce) from hx7.cast (by simp))
            have hz7 : w6.heap.size + 1 ≤ w7.heap.size := by have := hg7.size; simpa using this
            clear hx7 hg7 HZ7
            have HBr7 := Lib.hid (HBr6.out.trans (HK7.out.mono (by omega)))
            have hk7 : w7.drew.rangeAt w4.heap.size 1 (Z.map b8) ∧ w7.drew.rangeAt w6.heap.size 1 (Z.map b8) := ⟨onceC_rngO w7.drew _ _ _ Z _ HZl'.out ((HX6.out.below HK7.out (by omega)).cast HZe.out).drew, onceC_rngO w7.drew _ _ _ Z _ HZl'.out (HX7.out.cast HZe.out).drew⟩
            have heq := key_eqO Z HZl'.out
            have hu := Tryd.underlying29
            have hi32 : (Tryd.prog.info? 29).map (·.size) = some (Z.map b8).length := by rw [List.length_map, HZl'.out]; exact sizeKey
            clear HX5 HX6
  --{R24b
            refine wp_region_noPanic ?_
            refine wp_region_held_drew (S := fun w' => w'.rangeAt w4.heap.size 1 (Z.map b8) ∧ w'.rangeAt w6.heap.size 1 (Z.map b8)) (by kernel_rfl) hk7 (fun hS => ?_)
            refine wpAnyH_take (i := 0) (oi := { dst := some 82, op := _, type := _, pos := _, after := _, guard := _ }) (v := (.iface 60 (.int .i64 (E : Int)))) rfl (by kernel_rfl) (by kernel_rfl) (by kernel_rfl) (fun _ _ _ h => h) (Or.inl ⟨by rfl, ?_⟩) hS ?_
            · intro w' hw'
              go_simp
            try simp only [Act.put, List.setIfInBounds_toArray, List.set_cons_zero, List.set_cons_succ]
            refine wpAnyH_take (i := 1) (oi := { dst := some 83, op := _, type := _, pos := _, after := _, guard := _ }) (v := .bool false) rfl (by kernel_rfl) (by kernel_rfl) (by kernel_rfl) (fun _ _ _ h => h) (Or.inl ⟨by rfl, ?_⟩) hS ?_
            · intro w' hw'
              go_simp
            try simp only [Act.put, List.setIfInBounds_toArray, List.set_cons_zero, List.set_cons_succ]
            refine wpAnyH_take (i := 2) (oi := { dst := some 84, op := _, type := _, pos := _, after := _, guard := _ }) (v := (.iface 60 (.int .i64 (E : Int)))) rfl (by kernel_rfl) (by kernel_rfl) (by kernel_rfl) (fun _ _ _ h => h) (Or.inl ⟨by rfl, ?_⟩) hS ?_
            · intro w' hw'
              go_simp
            try simp only [Act.put, List.setIfInBounds_toArray, List.set_cons_zero, List.set_cons_succ]
            refine wpAnyH_take (i := 3) (oi := { dst := some 85, op := _, type := _, pos := _, after := _, guard := _ }) (v := .bool false) rfl (by kernel_rfl) (by kernel_rfl) (by kernel_rfl) (fun _ _ _ h => h) (Or.inl ⟨by rfl, ?_⟩) hS ?_
            · intro w' hw'
              go_simp
            try simp only [Act.put, List.setIfInBounds_toArray, List.set_cons_zero, List.set_cons_succ]
            refine wpAnyH_take (i := 4) (oi := { dst := some 86, op := _, type := _, pos := _, after := _, guard := _ }) (v := .bool false) rfl (by kernel_rfl) (by kernel_rfl) (by kernel_rfl) (fun _ _ _ h => h) (Or.inl ⟨by rfl, ?_⟩) hS ?_
            · intro w' hw'
              go_simp
            try simp only [Act.put, List.setIfInBounds_toArray, List.set_cons_zero, List.set_cons_succ]
            refine wpAnyH_take (i := 5) (oi := { dst := some 87, op := _, type := _, pos := _, after := _, guard := _ }) (v := .bool false) rfl (by kernel_rfl) (by kernel_rfl) (by kernel_rfl) (fun _ _ _ h => h) (Or.inl ⟨by rfl, ?_⟩) hS ?_
            · intro w' hw'
              go_simp
            try simp only [Act.put, List.setIfInBounds_toArray, List.set_cons_zero, List.set_cons_succ]
            refine wpAnyH_take (i := 6) (oi := { dst := some 88, op := _, type := _, pos := _, after := _, guard := _ }) (v := .pointer (some ⟨w4.heap.size, 1, none⟩)) rfl (by kernel_rfl) (by kernel_rfl) (by kernel_rfl) (fun _ _ _ h => h) (Or.inl ⟨by rfl, ?_⟩) hS ?_
            · intro w' hw'
              go_simp
            try simp only [Act.put, List.setIfInBounds_toArray, List.set_cons_zero, List.set_cons_succ]
            refine wpAnyH_take (i := 7) (oi := { dst := some 89, op := _, type := _, pos := _, after := _, guard := _ }) (v := .agg (Z.map b8).toArray) rfl (by kernel_rfl) (by kernel_rfl) (by kernel_rfl) (fun _ _ _ h => h) (yieldsIf_load_mid (by rfl) 29 (.tmp 88) rfl w4.heap.size 1 rfl (Z.map b8) _ (fun _ h => h.1) hu rfl hi32) hS ?_
            try simp only [Act.put, List.setIfInBounds_toArray, List.set_cons_zero, List.set_cons_succ]
            refine wpAnyH_take (i := 8) (oi := { dst := some 90, op := _, type := _, pos := _, after := _, guard := _ }) (v := .pointer (some ⟨w6.heap.size, 1, none⟩)) rfl (by kernel_rfl) (by kernel_rfl) (by kernel_rfl) (fun _ _ _ h => h) (Or.inl ⟨by rfl, ?_⟩) hS ?_
            · intro w' hw'
              go_simp
            try simp only [Act.put, List.setIfInBounds_toArray, List.set_cons_zero, List.set_cons_succ]
            refine wpAnyH_take (i := 9) (oi := { dst := some 91, op := _, type := _, pos := _, after := _, guard := _ }) (v := .agg (Z.map b8).toArray) rfl (by kernel_rfl) (by kernel_rfl) (by kernel_rfl) (fun _ _ _ h => h) (yieldsIf_load_mid (by rfl) 29 (.tmp 90) rfl w6.heap.size 1 rfl (Z.map b8) _ (fun _ h => h.2) hu rfl hi32) hS ?_
            try simp only [Act.put, List.setIfInBounds_toArray, List.set_cons_zero, List.set_cons_succ]
            refine wpAnyH_take (i := 10) (oi := { dst := some 92, op := _, type := _, pos := _, after := _, guard := _ }) (v := .bool false) rfl (by kernel_rfl) (by kernel_rfl) (by kernel_rfl) (fun _ _ _ h => h) (Or.inl ⟨by rfl, ?_⟩) hS ?_
            · intro w' hw'
              go_simp
            try simp only [Act.put, List.setIfInBounds_toArray, List.set_cons_zero, List.set_cons_succ]
            refine wpAnyH_take (i := 11) (oi := { dst := some 93, op := _, type := _, pos := _, after := _, guard := _ }) (v := .bool false) rfl (by kernel_rfl) (by kernel_rfl) (by kernel_rfl) (fun _ _ _ h => h) (Or.inl ⟨by rfl, ?_⟩) hS ?_
            · intro w' hw'
              go_simp
            try simp only [Act.put, List.setIfInBounds_toArray, List.set_cons_zero, List.set_cons_succ]
            refine wpAnyH_done (by kernel_rfl) ?_ _
            refine NoPanic.normal ?_
  --}R24b
            have HBr8 := Lib.hid (show Below wr.heap.size wr w7.drew from HBr7.out.drew)
            generalize w7.drew = w8 at HBr8 ⊢
            clear hk7 heq hu hi32 HX7 HBr7 HK7
            have HC8 := Lib.hid (HC.out.below HBr8.out)
            have HH8 := Lib.hid (HH.out.keep HBr8.out)
            have HM8 := Lib.hid (show MapT w8 gt j D from World.ownsMap.kept (row := none) HMt.out ⟨HBr8.out.os, HBr8.out.tape, HBr8.out.output, HBr8.out.size, fun k hk _ => HBr8.out.block k hk⟩ (by simp))
            have HB8 := Lib.hid (HB.out.trans (HBr8.out.mono hsw))
            have hrel : ∀ b : Bool, b = true → True := fun _ _ => trivial
            have HEnd := Lib.hid (show ∃ (j' : Nat) (ys' : List LP) (h : i < ys'.length) (D' : DataW Value), Value.int .i64 (P - 1) = .int .i64 (ys'[i].l.place - 1) ∧ Value.int .i64 ((j : Int) + 1) = .int .i64 (j' : Int) ∧ j' ≤ n ∧ ys'.length = 4 ∧ ys'[i].l.place ≤ 70 ∧ OfZ z ys'[i].l ∧ ChAt w8 gb glb ys' ∧ HeldAt w8 gm hp ∧ MapT w8 gt j' D' ∧ TimesD D' ys'[i].l.asked ∧ (∀ x ∈ ys', LP.gm x ≠ gt) ∧ Below w.heap.size w w8 from
              ⟨j + 1, ys, hyi, D, by rw [HPe.out], by go_num, by omega, HYl.out, by rw [← HPe.out]; exact hpl, HZ.out, HC8.out, HH8.out, World.ownsMap.mono HM8.out (by omega), HTd.out, HGy.out, HB8.out⟩)
            by_cases hna : (m : Int) ∈ ys[i].l.asked
            · have hlk := HM8.out.run HTd.out hm (c := 1) (by rw [if_pos hna])
              clear hna
              go_wp2_with fail
              go_roundw
              case rel => exact HEnd.out
              case measure => simp [intOf] <;> omega
            · have hlk := HM8.out.run HTd.out hm (c := 0) (by rw [if_neg hna])
              have hrf := HZ.out.refused HOk.out hm HE.out hna
              rw [← HPe.out] at hrf
              have hrf1 : ¬ ((m : Int) ≥ P - 1 - 64) := by omega
              have hrf2 : decide (P - 1 - 64 ≤ (m : Int)) = false := by simp; omega
              clear hna
              go_wp2_with fail
              go_roundw
              case rel => exact HEnd.out
              case measure => simp [intOf] <;> omega
        · obtain rfl : j = n := by omega
          clear hyl hz hcb hh hmt htd hgy hb hok
          go_wp2_with fail
          go_ret
          exact ⟨rfl, HB.out⟩
end Go.Proofs.YtmncihhofppkdaaDoor
