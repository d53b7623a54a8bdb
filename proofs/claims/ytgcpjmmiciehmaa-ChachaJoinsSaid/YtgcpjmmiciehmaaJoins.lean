/- ChachaJoins, the walk: a text that is parted at a whole number of pieces is mixed part by part. -/
import Derived.Test.YtgcpjmmiciehmaaTwice
namespace Go.Proofs.Ytgcpjmmiciehmaa
open Go.RowKit
set_option linter.unusedVariables false
set_option linter.unusedSimpArgs false

theorem wpList_append_rdw {P : Program} {α : Type} {f : α → Value} {w : World} {ops : Array Oper} {rest : List Oper} {o : Oper} {a : Act} {Q : Exit → Act → World → Prop} (hgd : Region.wanted o (yielded ops a.tmps) = true) (s x : Operand) (t : TypeId)
    (ho : o.op = .call { callee := .builtin .append, args := #[s, x], argTypes := #[t, t] })
    (hf : ∀ x, (f x).oneCell' = true) (base : Nat) (e : TypeId) (i : TypeInfo) (z : Value) (bytes : Nat) (ht : P.underlying t = some (.slice e)) (hi : P.info? e = some i) (hz : i.zero = some z)
    (hsize : i.size = 1) (hby : i.bytes = bytes) (hzs : z.cells.size = 1)
    (v : Value) (xs : List α) (hs : a.eval s = v) (hown : Own f w base e v xs)
    (B : Nat) (A : Option Addr) (m c : Nat) (ys : List α) (hx : a.eval x = .slice A m c) (hm : m = ys.length) (hr : Rd f w B A ys)
    (h63 : xs.length + ys.length ≤ maxLen) (hbytes : (xs.length + ys.length) * bytes ≤ 140737488355328) (hbase : base ≤ w.heap.size)
    (h : ∀ v' w', Own f w' base e v' (xs ++ ys) → Grew w w' v v' → (∀ C w0, C ≤ base → Below C w0 w → Below C w0 w') → wpList P ops Q rest (a.put o.dst v') w') : wpList P ops Q (o :: rest) a w := by
  subst hm
  refine wpList_step fun K hK => ?_
  rw [if_pos hgd]
  obtain ⟨v', w', hrun, h2, h3⟩ := run_append_grew (P := P) hf base t o.type e i z bytes ht hi hz hsize hby hzs v xs hown B A c ys hr h63 hbytes hbase
  unfold Oper.wp execOp
  simp only [ho, resolve, invoke, builtin, Sem.run_bind, Sem.run_pure, Result.andThen_ok, List.map_toArray, List.map_cons, List.map_nil, hs, hx, hrun]
  exact hK _ _ (h v' w' h2 h3 (fun C w0 hC hb => h3.bel hown hbase hC hb))
/-- where a slice cut from below begins -/
def cutA (a : Option Addr) (l m : Nat) : Option Addr := if m = l then a else a.map (·.add l)
theorem sliced_low (a : Option Addr) (l h m : Nat) : sliced a l h m 1 = .slice (cutA a l m) (h - l) (m - l) := by
  unfold sliced cutA
  rw [Nat.mul_one]
theorem Rd.cut {α : Type} {f : α → Value} {w : World} {B : Nat} {A : Option Addr} {xs : List α} (h : Rd f w B A xs) {d : Nat} (hd : xs.length ≤ d) (k : Nat) : Rd f w B (cutA A k d) (xs.drop k) := by
  unfold cutA
  split
  · rw [List.drop_eq_nil_of_le (by omega)]; exact Rd.nil_ _ _ _ _
  · exact h.drop k
attribute [local go_sem high] sliced_zero
theorem mixTo_join {key nonce : List (BitVec 8)} {number : Int} {text : List (BitVec 8)} {m q k : Nat} (hm : text.length = m) (hk : k = 64 * q) (hkm : k ≤ m) :
    mixTo key nonce number (text.take k) k ++ mixTo key nonce (number + q) (text.drop k) (m - k) = mixTo key nonce number text m := by
  rw [mixTo_take hm hkm]
  refine List.ext_getElem (by simp only [List.length_append, List.length_take, mixTo_len]; omega) fun i h1 h2 => ?_
  rw [mixTo_len] at h2
  rw [List.getElem_append]
  split
  · rw [List.getElem_take]
  · rename_i h3
    rw [List.length_take, mixTo_len] at h3
    simp only [mixTo, List.getElem_map, List.getElem_range, List.length_take, List.length_map, List.length_range]
    rw [Nat.min_eq_left hkm]
    obtain ⟨j, rfl⟩ : ∃ j, i = k + j := ⟨i - k, by omega⟩
    rw [Nat.add_sub_cancel_left]
    unfold mixAt
    have e1 : (text.drop k).getD j 0#8 = text.getD (k + j) 0#8 := by simp [List.getD, List.getElem?_drop]
    have e2 : (k + j) / 64 = q + j / 64 := by omega
    have e3 : (k + j) % 64 = j % 64 := by omega
    rw [e1, e2, e3]
    have e4 : number + (q : Int) + ((j / 64 : Nat) : Int) = number + ((q + j / 64 : Nat) : Int) := by omega
    rw [e4]
theorem mixBad_small {n len : Nat} {number : Int} (h0 : 0 ≤ number) (h1 : number ≤ 4294967000) (hl : len ≤ 1000) : mixBad n len number = if n = 12 then 0 else 1 := by
  unfold mixBad
  by_cases hn : n = 12
  · subst hn
    rw [badP_ok rfl (by omega), if_neg (by simp), if_neg (by omega), if_pos rfl]
  · rw [badP_len hn, if_pos (by simp), if_neg hn]

set_option maxRecDepth 100000 in
set_option maxHeartbeats 4000000 in
theorem joins_walk (key : List (BitVec 8)) (A : Option Addr) (n c : Nat) (nonce : List (BitVec 8)) (number : Int) (T : Option Addr) (m d : Nat) (text : List (BitVec 8)) (w : World) (hk : key.length = 32)
    (hr : Rd b8 w w.heap.size A nonce) (hn : nonce.length = n) (hnc : n ≤ c) (hc : c ≤ maxLen) (wf : (Lit.int .i64 number).wf = true) (ht : Rd b8 w w.heap.size T text) (hm : text.length = m) (hmd : m ≤ d) (hd : d ≤ maxLen) (cut : Int) (wfc : (Lit.int .i64 cut).wf = true) :
    Calls Try.prog 8 #[.agg (streamC key A n c number T m d).toArray, .int .i64 cut] w fun e w' => e = .returned (.bool true) ∧ Below w.heap.size w w' := by
  have hq := bounds_i64 wf
  have HK := Lib.hid hk
  have HN := Lib.hid hn
  have HM := Lib.hid hm
  have HR := Lib.hid hr
  have HT := Lib.hid ht
  have hlg := fun w' => large03_any key A n c number T m d w' hk
  have HS := Lib.hid (SBox.new w key A n c number T m d)
  have hb0 : Below w.heap.size w (w.alloc (.cells (streamC key A n c number T m d).toArray 40)) := by (repeat' (first | assumption | exact Below.refl _ _ | refine Below.drew ?_ | refine Below.alloc ?_ ?_ _ | omega | (simp; done) | (simp; omega)))
  have hz0 : (w.alloc (.cells (streamC key A n c number T m d).toArray 40)).heap.size = w.heap.size + 1 := by simp
  clear wfc
  by_cases hlarge : (decide ((1000 : Int) < n) || decide ((1000 : Int) < m)) = true
  · rw [hlarge] at hlg
    have HL := Lib.hid hlg
    clear hlg hlarge hk hn hm hr ht hq wf
    go_enter Try.func8, Try.ntmps8
    go_wp2_with fail
    generalize World.alloc w _ = W0 at HS hb0 hz0 ⊢
    have HB0 := Lib.hid hb0
    clear hb0
    refine (alive03_any _).mono ?_
    rintro e w0 ⟨rfl, rfl⟩
    go_wp2_with (refine wpList_load_mid rfl 40 (.tmp 2) rfl w.heap.size 0 rfl (streamC key A n c number T m d) _ HS.out.all Try.underlying40 rfl (by rw [streamC_len HK.out]; exact infoStream) ?_)
    refine (HL.out W0).mono ?_
    rintro e w1 ⟨rfl, hb1⟩
    have HBx := Lib.hid (HS.out.below hb1 (by omega))
    have HB1 := Lib.hid (HB0.out.trans (hb1.mono (by omega)) : Below w.heap.size w w1)
    have hz1 := hb1.size
    have cn := HBx.out.nonceC HK.out
    have ct := HBx.out.textC HK.out
    have cq := HBx.out.numC HK.out
    clear hb1 HL HB0 HS
    go_wp2_with fail
    go_ret
    exact ⟨rfl, HB1.out⟩
  · rw [Bool.not_eq_true] at hlarge
    rw [hlarge] at hlg
    have hn1 : n ≤ 1000 := by simp at hlarge; omega
    have hm1 : m ≤ 1000 := by simp at hlarge; omega
    have HL := Lib.hid hlg
    clear hlg hlarge hk hn hm hr ht wf
    by_cases hlow : number < 0
    · clear hq
      go_enter Try.func8, Try.ntmps8
      go_wp2_with fail
      generalize World.alloc w _ = W0 at HS hb0 hz0 ⊢
      have HB0 := Lib.hid hb0
      clear hb0
      refine (alive03_any _).mono ?_
      rintro e w0 ⟨rfl, rfl⟩
      go_wp2_with (refine wpList_load_mid rfl 40 (.tmp 2) rfl w.heap.size 0 rfl (streamC key A n c number T m d) _ HS.out.all Try.underlying40 rfl (by rw [streamC_len HK.out]; exact infoStream) ?_)
      refine (HL.out W0).mono ?_
      rintro e w1 ⟨rfl, hb1⟩
      have HBx := Lib.hid (HS.out.below hb1 (by omega))
      have HB1 := Lib.hid (HB0.out.trans (hb1.mono (by omega)) : Below w.heap.size w w1)
      have hz1 := hb1.size
      have cn := HBx.out.nonceC HK.out
      have ct := HBx.out.textC HK.out
      have cq := HBx.out.numC HK.out
      clear hb1 HL HB0 HS
      go_wp2_with fail
      go_ret
      exact ⟨rfl, HB1.out⟩
    · by_cases hhigh : 2147483648 < number
      · have hdn : (number < 0) = False := by simp; omega
        clear hq hlow
        go_enter Try.func8, Try.ntmps8
        go_wp2_with fail
        generalize World.alloc w _ = W0 at HS hb0 hz0 ⊢
        have HB0 := Lib.hid hb0
        clear hb0
        refine (alive03_any _).mono ?_
        rintro e w0 ⟨rfl, rfl⟩
        go_wp2_with (refine wpList_load_mid rfl 40 (.tmp 2) rfl w.heap.size 0 rfl (streamC key A n c number T m d) _ HS.out.all Try.underlying40 rfl (by rw [streamC_len HK.out]; exact infoStream) ?_)
        refine (HL.out W0).mono ?_
        rintro e w1 ⟨rfl, hb1⟩
        have HBx := Lib.hid (HS.out.below hb1 (by omega))
        have HB1 := Lib.hid (HB0.out.trans (hb1.mono (by omega)) : Below w.heap.size w w1)
        have hz1 := hb1.size
        have cn := HBx.out.nonceC HK.out
        have ct := HBx.out.textC HK.out
        have cq := HBx.out.numC HK.out
        clear hb1 HL HB0 HS
        go_wp2_with fail
        go_ret
        exact ⟨rfl, HB1.out⟩
      · have hdn : (number < 0) = False := by simp; omega
        have hdn2 : (2147483648 < number) = False := by simp; omega
        have HQ := Lib.hid (show 0 ≤ number ∧ number ≤ 2147483648 by omega)
        obtain ⟨q, hqU, hqm⟩ := umod_nat (IntKind.u64.wrap cut) (m / 64) (by rw [ofint_u64]; unfold bv; omega)
        obtain ⟨k, hk⟩ : ∃ k, k = 64 * q := ⟨_, rfl⟩
        have hkm : k ≤ m := by omega
        have HE := Lib.hid (show wrap64 (64 * wrap64 ((IntKind.u64.wrap cut).tmod ((m : Int) / 64 + 1))) = (k : Int) by
          rw [show (m : Int) / 64 = ((m / 64 : Nat) : Int) by omega, hqU, IntWalk.wrap64_in (q : Int) (by omega), IntWalk.wrap64_in _ (by omega)]; omega)
        have Hk := Lib.hid hk
        have Hkm := Lib.hid hkm
        have hq15 : q ≤ 15 := by omega
        clear hqU hqm hk hlow hhigh hq hkm
        go_enter Try.func8, Try.ntmps8
        go_wp2_with fail
        generalize World.alloc w _ = W0 at HS hb0 hz0 ⊢
        have HB0 := Lib.hid hb0
        clear hb0
        refine (alive03_any _).mono ?_
        rintro e w0 ⟨rfl, rfl⟩
        go_wp2_with (refine wpList_load_mid rfl 40 (.tmp 2) rfl w.heap.size 0 rfl (streamC key A n c number T m d) _ HS.out.all Try.underlying40 rfl (by rw [streamC_len HK.out]; exact infoStream) ?_)
        refine (HL.out W0).mono ?_
        rintro e w1 ⟨rfl, hb1⟩
        have HBx := Lib.hid (HS.out.below hb1 (by omega))
        have HB1 := Lib.hid (HB0.out.trans (hb1.mono (by omega)) : Below w.heap.size w w1)
        have hz1 := hb1.size
        have cn := HBx.out.nonceC HK.out
        have ct := HBx.out.textC HK.out
        have cq := HBx.out.numC HK.out
        clear hb1 HL HB0 HS
        have hX := mix_any key A n c w.heap.size nonce number T m d w.heap.size text w1 HK.out (HR.out.below HB1.out) (by omega) HN.out hnc (HT.out.below HB1.out) (by omega) HM.out (by omega) (by have := HQ.out; omega) (by have := HQ.out; omega)
        rw [arrV_mk] at hX
        have HX := Lib.hid hX
        clear hX
        go_wp2_with (refine wpList_load_mid rfl 38 (.tmp 38) rfl w.heap.size 0 rfl (key.map b8) _ (HBx.out.keyC HK.out) Try.underlying38 rfl (by rw [List.length_map, HK.out]; exact infoKeyS) ?_)
        rw [HE.out]
        refine HX.out.mono ?_
        rintro e w2 ⟨v2, rfl, ho2, hb2⟩
        obtain ⟨X, hXe⟩ : ∃ X, X = mixV key nonce number text := ⟨_, rfl⟩
        rw [← hXe] at ho2
        obtain ⟨X2, c2, rfl, hr2, -, hc2, -⟩ := ho2.shape' (n := X.length) rfl
        obtain ⟨bad, hbad⟩ : ∃ bad, bad = mixBad n m number := ⟨_, rfl⟩
        rw [← hbad]
        have hz2 : w1.heap.size ≤ w2.heap.size := hb2.size
        have HBx2 := Lib.hid (HBx.out.below hb2 (by omega))
        have HB2 := Lib.hid (HB1.out.trans (hb2.mono (by omega)) : Below w.heap.size w w2)
        have HR2 := Lib.hid hr2
        have HXX := Lib.hid hXe
        have Hbad := Lib.hid hbad
        have CN := Lib.hid (HBx2.out.nonceC HK.out)
        have CT := Lib.hid (HBx2.out.textC HK.out)
        have CQ := Lib.hid (HBx2.out.numC HK.out)
        have CK := Lib.hid (HBx2.out.keyC HK.out)
        have cn := CN.out
        have ct := CT.out
        have cq := CQ.out
        have ck := CK.out
        have hu := Try.underlying38
        have hi : (Try.prog.info? 38).map (·.size) = some (key.map b8).length := by rw [List.length_map, HK.out]; exact infoKeyS
        have hX := mix_any key A n c w.heap.size nonce number T k d w.heap.size (text.take k) w2.drew HK.out ((HR.out.below HB2.out).drew) (by show w.heap.size ≤ w2.heap.size; omega) HN.out hnc ((HT.out.below HB2.out).drew.take k) (by show w.heap.size ≤ w2.heap.size; omega) (by have := Hkm.out; rw [List.length_take, HM.out]; omega) (by have := Hkm.out; omega) (by have := HQ.out; omega) (by have := HQ.out; omega)
        rw [arrV_mk] at hX
        have HA := Lib.hid hX
        clear hX hXe ho2 hb2 hr2 HX HBx HB1 HE hbad
        go_wp2_with fail
        have hkd : (k : Int) ≤ (d : Int) := by have := Hkm.out; omega
        have hk0 : (0 : Int) ≤ (k : Int) := by omega
        have hkd' : k ≤ d := by have := Hkm.out; omega
        go_region_held3 (fun w' => w'.cell? ⟨w.heap.size, 32, none⟩ = some (.slice A n c) ∧ w'.cell? ⟨w.heap.size, 33, none⟩ = some (.int .i64 number) ∧ w'.cell? ⟨w.heap.size, 34, none⟩ = some (.slice T m d) ∧ w'.rangeAt w.heap.size 0 (key.map b8))
          (first
            | exact (HBx2.out.below (B := w2.heap.size) (show Below w2.heap.size w2 w3 from (Below.refl w2.heap.size w2).drew.trans hb3) (by omega)).all4 HK.out
            | go_keep)
          (first
            | (go_simp; refine HA.out.mono ?_; rintro e w3 ⟨v3, rfl, ho3, hb3⟩; have hz3 : w2.heap.size ≤ w3.heap.size := hb3.size))
        obtain ⟨Y, hY⟩ : ∃ Y, Y = mixV key nonce number (text.take k) := ⟨_, rfl⟩
        rw [← hY] at ho3
        obtain ⟨X3, c3, rfl, -, -, hc3, -⟩ := ho3.shape' (n := Y.length) rfl
        obtain ⟨badA, hbadA⟩ : ∃ badA, badA = mixBad n k number := ⟨_, rfl⟩
        rw [← hbadA]
        have hb23 : Below w2.heap.size w2 w3 := (Below.refl w2.heap.size w2).drew.trans hb3
        have HBx3 := Lib.hid (HBx2.out.below hb23 (by omega))
        have HB3 := Lib.hid (HB2.out.trans (hb23.mono (by omega)) : Below w.heap.size w w3)
        have HR23 := Lib.hid (HR2.out.below hb23)
        have HY := Lib.hid hY
        have HbadA := Lib.hid hbadA
        have HO3 := Lib.hid (show Own b8 w3 w2.heap.size 5 _ Y from ho3)
        clear ho3 hb3 hb23 hY hbadA HBx2 HB2 HR2 CN CT CQ CK cn ct cq ck HA
        have CN := Lib.hid (HBx3.out.nonceC HK.out)
        have CT := Lib.hid (HBx3.out.textC HK.out)
        have CQ := Lib.hid (HBx3.out.numC HK.out)
        have CK := Lib.hid (HBx3.out.keyC HK.out)
        have cn := CN.out
        have ct := CT.out
        have cq := CQ.out
        have ck := CK.out
        have hX := mix_any key A n c w.heap.size nonce (number + (q : Int)) (cutA T k d) (m - k) (d - k) w.heap.size (text.drop k) w3.drew HK.out ((HR.out.below HB3.out).drew) (by show w.heap.size ≤ w3.heap.size; omega) HN.out hnc ((HT.out.below HB3.out).drew.cut (by rw [HM.out]; exact hmd) k) (by show w.heap.size ≤ w3.heap.size; omega) (by rw [List.length_drop, HM.out]) (by omega) (by have := HQ.out; omega) (by have := HQ.out; omega)
        rw [arrV_mk] at hX
        unfold cutA at hX
        obtain ⟨T', hT'⟩ : ∃ T', T' = if d = k then T else Option.map (fun x => x.add k) T := ⟨_, rfl⟩
        have HT' := Lib.hid hT'
        rw [← hT'] at hX
        clear hT'
        have HA := Lib.hid hX
        clear hX
        go_wp2_with fail
        have hkm : (k : Int) ≤ (m : Int) := by have := Hkm.out; omega
        have hkm' : k ≤ m := by have := Hkm.out; omega
        have hkq : (k : Int) / 64 = (q : Int) := by have := Hk.out; omega
        have hkq2 : (k : Int).tdiv 64 = (q : Int) := by rw [Int.tdiv_eq_ediv_of_nonneg (by omega)]; exact hkq
        have HSum := Lib.hid (show IntKind.i64.wrap (number + IntKind.i64.wrap (q : Int)) = number + (q : Int) by rw [IntWalk.i64_in (q : Int) (by omega)]; exact IntWalk.i64_in _ (by have := HQ.out; omega))
        go_region_held3 (fun w' => w'.cell? ⟨w.heap.size, 32, none⟩ = some (.slice A n c) ∧ w'.cell? ⟨w.heap.size, 33, none⟩ = some (.int .i64 number) ∧ w'.cell? ⟨w.heap.size, 34, none⟩ = some (.slice T m d) ∧ w'.rangeAt w.heap.size 0 (key.map b8))
          (first
            | exact (HBx3.out.below (B := w3.heap.size) (show Below w3.heap.size w3 w4 from (Below.refl w3.heap.size w3).drew.trans hb4) (by omega)).all4 HK.out
            | go_keep)
          (first
            | (go_simp; rw [HSum.out, ← HT'.out]; refine HA.out.mono ?_; rintro e w4 ⟨v4, rfl, ho4, hb4⟩; have hz4 : w3.heap.size ≤ w4.heap.size := hb4.size))
        obtain ⟨Z, hZ⟩ : ∃ Z, Z = mixV key nonce (number + (q : Int)) (text.drop k) := ⟨_, rfl⟩
        rw [← hZ] at ho4
        obtain ⟨X4, c4, rfl, hr4, -, hc4, -⟩ := ho4.shape' (n := Z.length) rfl
        have hb34 : Below w3.heap.size w3 w4 := (Below.refl w3.heap.size w3).drew.trans hb4
        have HB4 := Lib.hid (HB3.out.trans (hb34.mono (by omega)) : Below w.heap.size w w4)
        have HR24 := Lib.hid (HR23.out.below (hb34.mono (by omega)))
        have HO34 := Lib.hid (HO3.out.below hb34 (Nat.le_refl _))
        have HR4 := Lib.hid hr4
        have HZ := Lib.hid hZ
        clear ho4 hb4 hr4 hb34 hZ HA HBx3 HB3 HR23 HO3 CN CT CQ CK hu hi cn cq ct ck hkd hkd' hkq hkq2
        by_cases h12 : n = 12
        · have b0 : bad = 0 := by rw [Hbad.out, mixBad_small (by have := HQ.out; omega) (by have := HQ.out; omega) hm1, if_pos h12]
          have b1 : badA = 0 := by rw [HbadA.out, mixBad_small (by have := HQ.out; omega) (by have := HQ.out; omega) (by have := Hkm.out; omega), if_pos h12]
          have b2 : mixBad n (m - k) (number + (q : Int)) = 0 := by rw [mixBad_small (by have := HQ.out; omega) (by have := HQ.out; omega) (by omega), if_pos h12]
          rw [b0, b1, b2, errV_zero]
          have hxv : X = Y ++ Z := by
            rw [HXX.out, HY.out, HZ.out]
            unfold mixV
            rw [HN.out, HM.out, List.length_take, List.length_drop, HM.out, Nat.min_eq_left Hkm.out, ← Hbad.out, ← HbadA.out, b0, b1, b2, if_pos rfl, if_pos rfl, if_pos rfl]
            exact (mixTo_join HM.out Hk.out Hkm.out).symm
          have Hxv := Lib.hid hxv
          have hYl : Y.length ≤ 1000 := by rw [HY.out]; refine Nat.le_trans (mixV_len' _ _ _ _) ?_; rw [List.length_take, HM.out]; omega
          have hZl : Z.length ≤ 1000 := by rw [HZ.out]; refine Nat.le_trans (mixV_len' _ _ _ _) ?_; rw [List.length_drop, HM.out]; omega
          obtain ⟨i0, hi0, hz0', hz1', hz2'⟩ := info_parts infoU8
          clear b0 b1 b2 h12 hxv
          go_wp2_with (at_builtin; refine wpList_append_rdw (by first | rfl | go_simp) (.tmp 101) (.tmp 102) 22 rfl b8_one w2.heap.size 5 i0 _ 1 Try.underlying22 hi0 hz0' hz1' hz2' rfl _ _ rfl HO34.out w4.heap.size X4 Z.length c4 Z rfl rfl HR4.out (by simp [maxLen]; omega) (by simp; omega) (by omega) ?_; intro v5 w5 ho5 hg5 hb5; obtain ⟨X5, c5, rfl, hr5, -, -, -⟩ := ho5.shape' (n := Y.length + Z.length) (by rw [List.length_append]); have HG5 := Lib.hid hg5; have HB5 := Lib.hid (hb5 w.heap.size _ (by omega) HB4.out); have HR25 := Lib.hid (HR24.out.below (hb5 w2.heap.size w4 (Nat.le_refl _) (Below.refl _ _))); have HR5 := Lib.hid hr5; clear ho5 hg5 hb5 hr5)
          refine (same_any c2 c5 HR25.out HR5.out rfl (by rw [List.length_append])).mono ?_
          rintro e w6 ⟨rfl, rfl⟩
          rw [← Hxv.out, beq_self_eq_true]
          go_wp2_with fail
          go_ret
          exact ⟨rfl, HB5.out⟩
        · have b0 : bad = 1 := by rw [Hbad.out, mixBad_small (by have := HQ.out; omega) (by have := HQ.out; omega) hm1, if_neg h12]
          have b1 : badA = 1 := by rw [HbadA.out, mixBad_small (by have := HQ.out; omega) (by have := HQ.out; omega) (by have := Hkm.out; omega), if_neg h12]
          have b2 : mixBad n (m - k) (number + (q : Int)) = 1 := by rw [mixBad_small (by have := HQ.out; omega) (by have := HQ.out; omega) (by omega), if_neg h12]
          have hx0 : X = [] := by rw [HXX.out]; unfold mixV; rw [HN.out, HM.out, ← Hbad.out, b0, if_neg (by simp)]
          rw [b0, b1, b2, errV_pos (by simp), hx0]
          clear b0 b1 b2 h12 hx0
          go_wp2_with fail
          go_ret
          exact ⟨rfl, HB4.out⟩
end Go.Proofs.Ytgcpjmmiciehmaa
