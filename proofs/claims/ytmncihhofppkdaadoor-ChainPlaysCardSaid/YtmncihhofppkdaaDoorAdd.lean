/- CONTRACT: a short digest takes bytes. -/
import Derived.Test.YtmncihhofppkdaaDoorShaC
import Derived.Test.YtmncihhofppkdaaDoorPad
import Derived.Test.YtmncihhofppkdaaDoorClone
namespace Go.Proofs.YtmncihhofppkdaaDoor
open Go.RowKit
set_option linter.unusedVariables false
set_option linter.unusedSimpArgs false

theorem pieces_succ {n : Nat} (c : Sha n) (j : Nat) (bs : List (BitVec 8)) (s : S8 n) : c.pieces (j + 1) bs s = c.piece (c.pieces j bs s) ((bs.drop (j * c.size)).take c.size) := by
  rw [Sha.pieces_add]; rfl
/-- a digest that has taken a text: its words, and what is left over, in rows from B on -/
def DigT (w : World) (g B : Nat) (t : List (BitVec 8)) : Prop := ∃ rv, Dig w g (sha32.pieces (t.length / 64) t begin32).list rv (t.length : Nat) ∧ Own b8 w B 5 rv (t.drop (64 * (t.length / 64)))
theorem DigT.lt {w : World} {g B : Nat} {t : List (BitVec 8)} (h : DigT w g B t) : g < w.heap.size := by obtain ⟨rv, h1, _⟩ := h; exact h1.lt
theorem DigT.below {w w' : World} {g B C : Nat} {t : List (BitVec 8)} (h : DigT w g B t) (hb : Below C w w') (hC : w.heap.size ≤ C) : DigT w' g B t := by
  obtain ⟨rv, h1, h2⟩ := h
  exact ⟨rv, h1.below hb (Nat.lt_of_lt_of_le h1.lt hC), h2.below hb hC⟩
theorem DigT.less {w : World} {g B B' : Nat} {t : List (BitVec 8)} (h : DigT w g B t) (hB : B' ≤ B) : DigT w g B' t := by
  obtain ⟨rv, h1, h2⟩ := h
  exact ⟨rv, h1, h2.less hB⟩
theorem DigT.nil_ {w : World} {g B : Nat} (h : Dig w g begin32.list (.slice none 0 0) 0) : DigT w g B [] := ⟨_, h, Own.nil_ _ _ _ _⟩
theorem Dig.not_row {α : Type} {f : α → Value} {w : World} {g B e : Nat} {s : List (BitVec 32)} {rv v : Value} {n : Int} {xs : List α} (h : Dig w g s rv n) (hte : 132 ≠ e) (hr : Own f w B e v xs) : some g ≠ v.ownBlock := h.2.not_row hte hr
theorem digT_add (t xs : List (BitVec 8)) : let h := t.length / 64; let a := t.drop (64 * h) ++ xs; let j := a.length / 64;
    sha32.pieces j a (sha32.pieces h t begin32) = sha32.pieces ((t ++ xs).length / 64) (t ++ xs) begin32 ∧ a.drop (64 * j) = (t ++ xs).drop (64 * ((t ++ xs).length / 64)) := by
  intro h a j
  have hh : 64 * h ≤ t.length := Nat.mul_div_le _ _
  have hd : (t ++ xs).drop (64 * h) = a := by rw [List.drop_append_of_le_length hh]
  have ha : a.length = t.length - 64 * h + xs.length := by show (t.drop (64 * h) ++ xs).length = _; rw [List.length_append, List.length_drop]
  have e : (t ++ xs).length / 64 = h + j := by
    show _ = h + a.length / 64
    rw [List.length_append, ha]; omega
  rw [e, Sha.pieces_add, show sha32.size = 64 from rfl, Nat.mul_comm h 64, hd, Sha.pieces_app sha32 h t xs begin32 (by show h * 64 ≤ _; omega)]
  refine ⟨rfl, ?_⟩
  rw [← hd, List.drop_drop]; congr 1; omega
theorem getD_drop_take (a : List (BitVec 8)) (o m i : Nat) (h : i < m) (h2 : o + i < a.length) : ((a.drop o).take m).getD i 0#8 = a[o + i] := by
  rw [List.getD, List.getElem?_take, if_pos h, List.getElem?_drop, List.getElem?_eq_getElem h2]; rfl

theorem below_grown {a w w' : World} {r : Option Nat} (h : a.grownBy w r) (hb : Below w.heap.size w w') : a.grownBy w' r := ⟨hb.os.trans h.os, hb.tape.trans h.tape, hb.output.trans h.output, Nat.le_trans h.size hb.size, fun i hi hne => (hb.block i (Nat.lt_of_lt_of_le hi h.size)).trans (h.block i hi hne)⟩
set_option maxRecDepth 100000 in
set_option maxHeartbeats 2000000 in
theorem add_any (w : World) (g B Bx n c : Nat) (A : Option Addr) (t xs : List (BitVec 8)) (hd : DigT w g B t) (hB : B ≤ w.heap.size) (hr : Rd b8 w Bx A xs) (hBx : Bx ≤ w.heap.size) (hn : n = xs.length) (hgx : ∀ a, 0 < xs.length → A = some a → a.block ≠ g) (hbig : t.length + xs.length ≤ 50000000) :
    Calls Tryd.prog 73 #[.pointer (some ⟨g, 0, none⟩), .slice A n c] w fun e w' => e = .returned (.tuple #[]) ∧ DigT w' g w.heap.size (t ++ xs) ∧ w.grownBy w' (some g) := by
  obtain ⟨rv, hd, hown⟩ := hd
  obtain ⟨h, hh⟩ : ∃ h, h = t.length / 64 := ⟨_, rfl⟩
  rw [← hh] at hd hown
  obtain ⟨nr, hnr⟩ : ∃ nr, nr = (t.drop (64 * h)).length := ⟨_, rfl⟩
  obtain ⟨Ar, cr, rfl, hrr, hAr, hcr, -⟩ := hown.shape' hnr.symm
  have hlaw := digT_add t xs
  simp only [← hh] at hlaw
  obtain ⟨S, hS⟩ : ∃ S, S = sha32.pieces h t begin32 := ⟨_, rfl⟩
  obtain ⟨N, hN⟩ : ∃ N, N = t.length := ⟨_, rfl⟩
  rw [← hS, ← hN] at hd
  rw [← hS] at hlaw
  have hNn : N + n ≤ 50000000 := by omega
  have c8 := hd.rest
  have c9 := hd.count
  have f9 := hd.frozen 9
  have f8 := hd.frozen 8
  have hnb := hd.not_row (by decide) hown
  have HNb := Lib.hid hnb
  have HD := Lib.hid hd
  have HO := Lib.hid hown
  have HR := Lib.hid hr
  have HRr := Lib.hid hrr
  have HN := Lib.hid hn
  have HNr := Lib.hid hnr
  have HG := Lib.hid hgx
  have HLaw := Lib.hid hlaw
  have HNN := Lib.hid hN
  have Hh := Lib.hid hh
  have hgl := hd.lt
  clear hd hown hr hrr hn hnr hgx hlaw hS hh hnb hAr hbig hN
  go_enter Tryd.func73, Tryd.ntmps73
  go_wp2_with fail
  obtain ⟨W1, hW1⟩ : ∃ W1, W1 = w.setCell ⟨g, 9, none⟩ (.int .i64 ((N : Int) + (n : Int))) := ⟨_, rfl⟩
  have hG1 : w.grownBy W1 (some g) := by rw [hW1]; exact grown_set (World.grownBy.refl w _) (.inl rfl) _
  have hD1 : Dig W1 g S.list (.slice Ar nr cr) ((N : Int) + (n : Int)) := by rw [hW1]; exact HD.out.setCount _
  have hO1 : Own b8 W1 B 5 (.slice Ar nr cr) (t.drop (64 * h)) := HO.out.kept hG1 (.inr (fun e => HNb.out e.symm))
  have hR1 : Rd b8 W1 Bx A xs := fun hn => by
    obtain ⟨b, off, e, hb, hc⟩ := HR.out hn
    exact ⟨b, off, e, hb, fun j u hu => (cell_grown hG1 (a := ⟨b, off + j, none⟩) (by show b < _; omega) (by have := HG.out _ hn e; simpa using this)).trans (hc j u hu)⟩
  have hz1 : W1.heap.size = w.heap.size := by rw [hW1, World.size_setCell]
  rw [← hW1]
  generalize hW2 : W1.alloc (.cells #[.slice Ar nr cr, .slice A n c] 30) = W2
  have hP : Pts W2 W1.heap.size W1.heap.size 0 [((Ar, nr, cr), t.drop (64 * h)), ((A, n, c), xs)] := by
    refine ⟨?_, by rw [← hW2]; simp, ?_, ?_⟩
    · intro k u hu
      rw [← hW2, Nat.zero_add, cell_of_row _ W1.heap.size k _ 30 (0, 0) (heap_alloc_new W1 _)]
      match k, hu with
      | 0, hu => cases hu; rfl
      | 1, hu => cases hu; rfl
    · intro u hu
      rw [← hW2]
      simp only [List.mem_cons, List.not_mem_nil, or_false] at hu
      rcases hu with rfl | rfl
      · exact (hO1.rd.alloc (Nat.le_refl _) _)
      · exact (hR1.alloc (by omega) _).more (by omega)
    · intro u hu
      simp only [List.mem_cons, List.not_mem_nil, or_false] at hu
      rcases hu with rfl | rfl
      · exact HNr.out
      · exact HN.out
  have hD2 : Dig W2 g S.list (.slice Ar nr cr) ((N : Int) + (n : Int)) := by rw [← hW2]; exact hD1.alloc _
  have hG2 : w.grownBy W2 (some g) := by rw [← hW2]; exact grown_alloc hG1 _
  have hz2 : W2.heap.size = w.heap.size + 1 := by rw [← hW2, World.size_alloc, hz1]
  obtain ⟨a, ha⟩ : ∃ a, a = t.drop (64 * h) ++ xs := ⟨_, rfl⟩
  have hal : a.length ≤ 50000000 := by rw [ha, List.length_append, ← HNr.out, ← HN.out]; have := HNN.out; have := HNr.out; rw [List.length_drop] at this; omega
  have hcat := concat_any W2 W1.heap.size W1.heap.size 0 2 2 _ hP (by omega) rfl (by omega) (by rw [show (List.flatMap (fun p : Pt => p.2) [((Ar, nr, cr), t.drop (64 * h)), ((A, n, c), xs)]) = a by rw [ha]; simp]; exact hal)
  rw [show (List.flatMap (fun p : Pt => p.2) [((Ar, nr, cr), t.drop (64 * h)), ((A, n, c), xs)]) = a by rw [ha]; simp] at hcat
  rw [hz1] at hcat
  have HCat := Lib.hid hcat
  have HD2 := Lib.hid hD2
  have HG2 := Lib.hid hG2
  have HA := Lib.hid ha
  have HZ2 := Lib.hid hz2
  have HAl := Lib.hid hal
  clear hW1 hG1 hD1 hO1 hR1 hz1 hW2 hP hD2 hG2 hcat ha hz2 hal
  refine HCat.out.mono ?_
  rintro e w3 ⟨v3, rfl, hown3, hb3⟩
  obtain ⟨T, hT⟩ : ∃ T, T = a.length := ⟨_, rfl⟩
  obtain ⟨A3, c3, rfl, hr3, hA3, hc3, hm3⟩ := hown3.shape' hT.symm
  have hz3 := hb3.size
  have hD3 := HD2.out.below hb3 (by have := HZ2.out; omega)
  have hG3 := below_grown HG2.out hb3
  have HO3 := Lib.hid hown3
  have HD3 := Lib.hid hD3
  have HG3 := Lib.hid hG3
  have HT := Lib.hid hT
  have HA3 := Lib.hid hA3
  have hz3' : w.heap.size < w3.heap.size := by have := HZ2.out; omega
  have HZ3 := Lib.hid hz3
  clear hown3 hb3 hD3 hG3 hT hA3 hr3 hz3 HCat HD2 HG2
  have hTb : T ≤ 50000000 := by rw [HT.out]; exact HAl.out
  go_wp2_with fail
  refine (shorts_any _).mono ?_
  rintro e w4 ⟨rfl, hb4⟩
  have hz4 := hb4.size
  have HK0 := Lib.hid (show Arr w32 (w4.alloc (.cells ((List.replicate 64 0#32).map w32).toArray 135)) w4.heap.size 135 (List.replicate 64 0#32) from Arr.new w32 w4 _ _)
  have HO4 := Lib.hid (HO3.out.below hb4 (Nat.le_refl _))
  have HD4 := Lib.hid ((HD3.out.below hb4 (by omega)).alloc (.cells ((List.replicate 64 0#32).map w32).toArray 135))
  have HG4 := Lib.hid (grown_alloc (below_grown HG3.out hb4) (.cells ((List.replicate 64 0#32).map w32).toArray 135))
  clear hb4 HO3 HD3 HG3
  go_wp2_with (refine wpList_store_arr rfl 135 _ _ rfl w4.heap.size rfl K32 rfl _ _ HK0.out (by kernel_rfl) (by rw [size64, K32_len]) w32_one ?_; intro w5 hx5 hg5)
  have hz5 : w4.heap.size + 1 ≤ w5.heap.size := by have := hg5.size; rw [World.size_alloc] at this; exact this
  have HK5 := Lib.hid hx5
  have HO5 := Lib.hid ((HO4.out.alloc _).kept' hg5 (fun g' e hv => by cases e; have := (HO4.out.lt _ hv).2; omega))
  have HD5 := Lib.hid (HD4.out.grown hg5 (by simp; omega))
  have HG5 := Lib.hid (show w.grownBy w5 (some g) from grownBy_trans HG4.out hg5 (fun g' e => by cases e; exact .inr (by omega)))
  clear hx5 hg5 HK0 HO4 HD4 HG4
  have hgkg : g < w4.heap.size := by omega
  go_frame
  go_loopw [4] (fun v wr => ∃ (j : Nat) (A' : Option Addr) (c' : Nat), v = .slice A' (T - 64 * j) c' ∧ 64 * j ≤ T ∧ T - 64 * j ≤ c' ∧ (0 < T - 64 * j → ∃ b, A3 = some ⟨b, 0, none⟩ ∧ A' = some ⟨b, 64 * j, none⟩) ∧ (A' = none → T - 64 * j = 0 ∧ c' = 0) ∧
      Own b8 wr w.heap.size 5 (.slice A3 T c3) a ∧ Dig wr g (sha32.pieces j a S).list (.slice Ar nr cr) ((N : Int) + (n : Int)) ∧ Arr w32 wr w4.heap.size 135 K32 ∧ w.grownBy wr (some g)) (fun v _ => (lenIn v).toNat)
  case atStart =>
    refine ⟨0, A3, c3, by simp, by omega, by omega, ?_, fun e => ?_, HO5.out.less (by have := HZ2.out; omega), HD5.out, HK5.out, HG5.out⟩
    · intro hp
      obtain ⟨g', cap, e, -⟩ := HO5.out.form' HT.out.symm (by omega)
      injection e with e1
      exact ⟨g', e1, by rw [e1]⟩
    · have h0 := HA3.out e
      omega
  case round =>
    obtain ⟨j, A', c', rfl, hjT, hjc, hA', hAn, ho, hdg, hka, hgr⟩ := hrel
    clear HO5 HD5 HG5 HK5
    have HOa := Lib.hid ho
    have HDa := Lib.hid hdg
    have HKa := Lib.hid hka
    have HGa := Lib.hid hgr
    have HA' := Lib.hid hA'
    have HAn := Lib.hid hAn
    have hgw := hgr.size
    clear ho hdg hka hgr hA' hAn
    obtain ⟨L, hL⟩ : ∃ L, L = T - 64 * j := ⟨_, rfl⟩
    rw [← hL] at hjc ⊢
    have HL := Lib.hid hL
    clear hL
    by_cases hlt : 64 ≤ L
    · obtain ⟨b, e3, rfl⟩ := HA'.out (by rw [← HL.out]; omega)
      have hLT : 64 * j + L = T := by have := HL.out; omega
      have hc64 : 64 ≤ c' := by omega
      have hge : ¬ ((L : Int) < 64) := by omega
      have hcell : ∀ i, i < 64 → wr.cell? ⟨b, 64 * j + i, none⟩ = some (b8 (((a.drop (64 * j)).take 64).getD i 0#8)) := fun i hi => by
        have h1 := HOa.out
        rw [e3] at h1
        have h2 : 64 * j + i < a.length := by rw [← HT.out]; omega
        rw [getD_drop_take _ _ _ _ hi h2]
        exact (h1.at_ h2).1
      have hpl : ((a.drop (64 * j)).take 64).length = 64 := by rw [List.length_take, List.length_drop, ← HT.out]; omega
      have hbl : b < wr.heap.size ∧ w.heap.size ≤ b := by
        have h1 := HOa.out
        rw [e3] at h1
        have := h1.lt b rfl
        omega
      have hpc := piece_any g w4.heap.size b (64 * j) c' (sha32.pieces j a S) (.slice Ar nr cr) ((N : Int) + (n : Int)) ((a.drop (64 * j)).take 64) wr HDa.out HKa.out hpl hbl.1 hcell
      rw [show sha32.piece (sha32.pieces j a S) ((a.drop (64 * j)).take 64) = sha32.pieces (j + 1) a S by rw [pieces_succ, show sha32.size = 64 from rfl, Nat.mul_comm j 64]] at hpc
      have HPc := Lib.hid hpc
      have HE3 := Lib.hid e3
      clear hcell hpl hpc e3
      go_wp2_with fail
      refine HPc.out.mono ?_
      rintro e w6 ⟨rfl, hd6, hg6⟩
      have hbg : b ≠ g := by omega
      have HO6 := Lib.hid (HOa.out.kept' hg6 (fun g' e hv => by cases e; rw [HE3.out] at hv; exact hbg (by simpa [Value.ownBlock] using hv)))
      have HK6 := Lib.hid (HKa.out.grown hg6 (by simp; omega))
      have HG6 := Lib.hid (show w.grownBy w6 (some g) from grownBy_trans HGa.out hg6 (fun g' e => .inl e))
      have HD6 := Lib.hid hd6
      clear hd6 hg6
      have hL64 : ((L - 64 : Nat) : Int) = (L : Int) - 64 := by omega
      by_cases hcc : c' = 64
      · subst hcc
        obtain rfl : L = 64 := by omega
        go_wp2_with fail
        go_roundw
        case rel => exact ⟨j + 1, _, 0, by congr 1; omega, by omega, by omega, fun h => by omega, (fun e => by cases e), HO6.out, HD6.out, HK6.out, HG6.out⟩
        case measure => simp [lenIn]
      · have hcn : ¬ (64 = c') := fun e => hcc e.symm
        go_wp2_with fail
        go_roundw
        case rel => exact ⟨j + 1, _, c' - 64, by congr 1; omega, by omega, by omega, fun _ => ⟨b, HE3.out, by rw [Nat.mul_succ]⟩, (fun e => by cases e), HO6.out, HD6.out, HK6.out, HG6.out⟩
        case measure => simp [lenIn]; omega
    · have hge : (L : Int) < 64 := by omega
      have hjj : j = a.length / 64 := by have := HL.out; have := HT.out; omega
      have hrd : Rd b8 wr wr.heap.size A' (a.drop (64 * j)) := fun hp => by
        rw [List.length_drop, ← HT.out] at hp
        obtain ⟨b, e3, e4⟩ := HA'.out (by omega)
        have h1 := HOa.out
        rw [e3] at h1
        refine ⟨b, 64 * j, e4, (h1.lt b rfl).2, fun i u hu => ?_⟩
        rw [List.getElem?_drop] at hu
        have := (h1.at_ (List.getElem?_eq_some_iff.1 hu).1).1
        rw [(List.getElem?_eq_some_iff.1 hu).2] at this
        exact this
      have hcl := clone_any wr wr.heap.size A' c' L (a.drop (64 * j)) hrd (Nat.le_refl _) (by rw [List.length_drop, ← HT.out]; exact HL.out) (fun e => by have := HAn.out e; have := HL.out; omega) (by omega)
      have HCl := Lib.hid hcl
      have HJ := Lib.hid hjj
      clear hrd hcl hjj
      go_wp2_with fail
      refine HCl.out.mono ?_
      rintro e w6 ⟨v6, rfl, hown6, hb6⟩
      obtain ⟨n6, hn6⟩ : ∃ n6, n6 = (a.drop (64 * j)).length := ⟨_, rfl⟩
      obtain ⟨A6, c6, rfl, -, -, -, -⟩ := hown6.shape' hn6.symm
      have HD6 := Lib.hid (HDa.out.below hb6 (by omega))
      have HO6 := Lib.hid hown6
      have HG6 := Lib.hid (below_grown HGa.out hb6)
      have c8' := HD6.out.rest
      have f8' := HD6.out.frozen 8
      clear hown6 hb6 hn6
      go_wp2_with fail
      go_end0
      have hset := HD6.out.setRest (.slice A6 n6 c6)
      obtain ⟨law1, law2⟩ := HLaw.out
      rw [← HA.out, ← HJ.out] at law1 law2
      refine ⟨rfl, ⟨.slice A6 n6 c6, ?_, ?_⟩, grown_set HG6.out (.inl rfl) _⟩
      · rw [← law1]
        have e : (((t ++ xs).length : Nat) : Int) = (N : Int) + (n : Int) := by rw [List.length_append, HNN.out, HN.out]; omega
        rw [e]; exact hset
      · rw [← law2]
        exact (HO6.out.kept (grown_set (World.grownBy.refl w6 (some g)) (.inl rfl) (.slice A6 n6 c6) (p := ⟨g, 8, none⟩)) (.inr (fun e => (HD6.out.not_row (by decide) HO6.out) e.symm))).less (by have := HGa.out.size; omega)
end Go.Proofs.YtmncihhofppkdaaDoor
