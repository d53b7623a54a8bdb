/- CONTRACT: chain's line.take, whatever the number; a line in memory and its model. -/
import Derived.Test.YtmncihhofppkdaaDoorTakeR
namespace Go.Proofs.YtmncihhofppkdaaDoor
open Go.RowKit
set_option linter.unusedVariables false
set_option linter.unusedSimpArgs false

/-- a leaf's chain as it lies in memory -/
structure LP where
  l : LineM
  hp : List (OnceM × Nat)
  gm : Nat
  t : Bool
  h : Int
  s : BitVec 64
  M : List Int
def LP.cells (x : LP) : List Value := lineC x.t x.h x.s x.l.link x.l.place (.map (some x.gm))
structure LP.OK (x : LP) : Prop where
  lok : LOK x.l
  marks : Marks x.M x.t x.h x.s x.l
  fst : x.hp.map Prod.fst = x.l.held
  nd : (x.hp.map Prod.snd).Nodup
theorem LP.cells_len (x : LP) (h : x.OK) : x.cells.length = 37 := lineC_len _ _ _ _ _ _ h.lok.len

theorem takeL_low {l : LineM} (k : LOK l) {n : Int} (hn : n < l.place) (h0 : takeE l n = 0) : takeL l n = ⟨l.link, l.place, l.held.filter (fun o => !decide (o.no = n)), l.asked ++ [n], l.low⟩ := by
  have e0 : (n + 1 - l.place).toNat = 0 := by omega
  have hh : hiA (l.asked ++ [n]) l.low = l.place - 1 := by
    rw [hiA_snoc]
    have := k.hi
    unfold hiM at this
    rw [this, if_neg (by omega)]
  unfold takeL heldTo
  rw [e0, if_neg (by omega), hh]
  simp only [linkAt, runL, List.append_nil]
  congr 1
  refine List.filter_congr (fun o ho => ?_)
  have := (k.held o ho).2.2.2.1
  unfold keepO
  have h2 : decide (l.place - 1 - 64 ≤ o.no) = true := by simp; omega
  rw [h2, Bool.and_true]
  by_cases h3 : o.no = n
  · simp [h3]
  · simp [h3]
theorem takeO_low {l : LineM} (k : LOK l) {n : Int} (hn : n < l.place) (h0 : takeE l n = 0) {o : OnceM} (ho : o ∈ l.held) (hno : o.no = n) : takeO l n = o := by
  have e0 : (n + 1 - l.place).toNat = 0 := by omega
  unfold takeO heldTo
  rw [if_pos h0, e0]
  simp only [runL, List.append_nil]
  rw [← hno]
  exact pick_mem k.rise ho
theorem takeL_run {l : LineM} (kk : LOK l) {n : Int} {k : Nat} (hn : n = l.place + (k : Int)) (h0 : takeE l n = 0) :
    takeL l n = ⟨linkAt l.link (k + 1), n + 1, (l.held ++ runL l.link l.place k).filter (fun o => !decide (o.no < n - 64)), l.asked ++ [n], l.low⟩ := by
  have e0 : (n + 1 - l.place).toNat = k + 1 := by omega
  have hh : hiA (l.asked ++ [n]) l.low = n := by
    rw [hiA_snoc]
    have := kk.hi
    unfold hiM at this
    rw [this, if_pos (by omega)]
  unfold takeL heldTo
  rw [e0, if_pos (by omega), hh]
  congr 1
  rw [show runL l.link l.place (k + 1) = runL l.link l.place k ++ [ofL (linkAt l.link k) (l.place + (k : Int))] from rfl, ← List.append_assoc, List.filter_append, List.filter_cons, if_neg (by unfold keepO; rw [ofL_no]; simp; omega), List.filter_nil, List.append_nil]
  refine List.filter_congr (fun o ho => ?_)
  have hlt : o.no < n := by
    rcases List.mem_append.1 ho with h1 | h1
    · have := (kk.held o h1).2.1; omega
    · obtain ⟨j, hj, rfl⟩ := (mem_runL _ _ _ _).1 h1
      rw [ofL_no]; omega
  unfold keepO
  have h2 : (o.no == n) = false := by simp; omega
  rw [h2]
  by_cases h3 : o.no < n - 64
  · simp [h3]
  · simp [h3]; omega
theorem takeO_run {l : LineM} {n : Int} {k : Nat} (hn : n = l.place + (k : Int)) (h0 : takeE l n = 0) : takeO l n = ofL (linkAt l.link k) n := by
  have e0 : (n + 1 - l.place).toNat = k + 1 := by omega
  unfold takeO heldTo
  rw [if_pos h0, e0, show runL l.link l.place (k + 1) = runL l.link l.place k ++ [ofL (linkAt l.link k) (l.place + (k : Int))] from rfl, ← List.append_assoc, pick_app, ofL_no, if_pos hn.symm, ← hn]

theorem take_any (w : World) (g : Nat) (x : LP) (hx : x.OK) (hB : Blk w g 81 x.cells) (hH : HeldAt w x.gm x.hp) (n : Int) (K : Nat) (hK : K ≤ g ∧ K ≤ x.gm ∧ K ≤ w.heap.size) :
    Calls Tryd.prog 34 #[.pointer (some ⟨g, 0, none⟩), .int .i64 n] w fun e w' =>
      (takeE x.l n ≠ 0 → e = .returned (.tuple #[.agg zeroOnce.toArray, errV (takeE x.l n)])) ∧
      (takeE x.l n = 0 → ∃ b y, e = .returned (.tuple #[.agg (onceC n (takeO x.l n).key (nonceS b)).toArray, .nilIface]) ∧ Arr b8 w' b 5 ((takeO x.l n).key ++ (takeO x.l n).nonce) ∧ LP.gm y = x.gm ∧ y.l = takeL x.l n ∧ y.OK ∧
        Blk w' g 81 y.cells ∧ HeldAt w' y.gm y.hp ∧ (b :: y.hp.map Prod.snd).Nodup ∧ ∀ z ∈ b :: y.hp.map Prod.snd, z ∈ x.hp.map Prod.snd ∨ w.heap.size ≤ z) ∧ Below K w w' := by
  obtain ⟨hok, hM, hf, hnd⟩ := hx
  by_cases hc : winCheck x.t x.h x.s n = 0
  · by_cases hin : ∃ p ∈ x.hp, p.1.no = n
    · obtain ⟨⟨o, b⟩, hp', hno⟩ := hin
      have hno' : o.no = n := hno
      obtain ⟨hp1, hp2, he⟩ := List.append_of_mem hp'
      have hoh : o ∈ x.l.held := by
        show o ∈ x.l.held
        rw [← hf]; exact List.mem_map.2 ⟨(o, b), hp', rfl⟩
      have hE := hM.found hok hc hoh hno'
      have hlow : n < x.l.place := by rw [← hno']; exact (hok.held o hoh).2.1
      have hL := takeL_low hok hlow hE
      have hO := takeO_low hok hlow hE hoh hno'
      have hL0 := takeL_ok hok hE
      rw [he] at hH hf hnd
      refine (take_found w g x.gm hp1 hp2 o b x.l x.M x.t x.h x.s n hB hH hf hok hM hc hno' K hK).mono ?_
      rintro e w' ⟨rfl, hA, hB', hH', hb⟩
      have hMk := hM.take hok hc hE
      refine ⟨fun h => absurd hE h, fun _ => ⟨b, ⟨takeL x.l n, hp1 ++ hp2, x.gm, _, _, _, _⟩, ?_, ?_, rfl, rfl, ⟨hL0, hMk, ?_, ?_⟩, ?_, hH', ?_, ?_⟩, hb⟩
      · rw [hO, hno']
      · rw [hO]; exact hA
      · rw [hL]
        show (hp1 ++ hp2).map Prod.fst = x.l.held.filter (fun o => !decide (o.no = n))
        have hr := hok.rise
        rw [← hf] at hr ⊢
        simp only [List.map_append, List.map_cons] at hr ⊢
        obtain ⟨-, hr2, hr3⟩ := List.pairwise_append.1 hr
        obtain ⟨hr4, -⟩ := List.pairwise_cons.1 hr2
        rw [List.filter_append, List.filter_cons, if_neg (by simp [hno'])]
        congr 1
        · exact (List.filter_eq_self.2 (fun a ha => by
            have h9 : a.no < o.no := hr3 a ha o (by simp)
            simp; omega)).symm
        · exact (List.filter_eq_self.2 (fun a ha => by
            have h9 : o.no < a.no := hr4 a ha
            simp; omega)).symm
      · exact hnd.sublist (by rw [List.map_append, List.map_append, List.map_cons]; exact List.Sublist.append (List.Sublist.refl _) (List.sublist_cons_self _ _))
      · show Blk w' g 81 (lineC _ _ _ (takeL x.l n).link (takeL x.l n).place _)
        rw [hL]; exact hB'
      · rw [List.map_append, List.map_cons] at hnd
        show (b :: (hp1 ++ hp2).map Prod.snd).Nodup
        rw [List.map_append]
        exact (List.perm_middle.nodup_iff).1 hnd
      · intro z hz
        refine .inl ?_
        rw [he, List.map_append, List.map_cons]
        have hz' : z ∈ b :: (hp1 ++ hp2).map Prod.snd := hz
        rw [List.map_append] at hz'
        simp only [List.mem_cons, List.mem_append] at hz' ⊢
        rcases hz' with h | h | h
        · exact .inr (.inl h)
        · exact .inl h
        · exact .inr (.inr h)
    · have hno : ∀ p ∈ x.hp, p.1.no ≠ n := fun p hp' e => hin ⟨p, hp', e⟩
      by_cases hlo : n < x.l.place
      · have hE := hM.passed hok hc (fun o ho => by rw [← hf] at ho; obtain ⟨p, hp', rfl⟩ := List.mem_map.1 ho; exact hno p hp') hlo
        refine (take_low w g x.gm x.hp x.l x.M x.t x.h x.s n hB hH hf hok hM hc hno hlo).mono ?_
        rintro e w' ⟨rfl, hb⟩
        exact ⟨fun _ => rfl, fun h0 => absurd h0 (by rw [hE]; decide), hb.mono hK.2.2⟩
      · by_cases hfar : 256 < n - x.l.place
        · have hE := hM.beyond hok hc (by omega : x.l.place ≤ n)
          rw [if_pos hfar] at hE
          refine (take_far w g x.gm x.hp x.l x.M x.t x.h x.s n hB hH hf hok hM hc hno (by omega) hfar).mono ?_
          rintro e w' ⟨rfl, hb⟩
          exact ⟨fun _ => rfl, fun h0 => absurd h0 (by rw [hE]; decide), hb.mono hK.2.2⟩
        · have hE := hM.beyond hok hc (by omega : x.l.place ≤ n)
          rw [if_neg hfar] at hE
          obtain ⟨k, hk⟩ : ∃ k : Nat, n = x.l.place + (k : Int) := ⟨(n - x.l.place).toNat, by omega⟩
          have hL := takeL_run hok hk hE
          have hO := takeO_run hk hE
          have hL0 := takeL_ok hok hE
          have hMk := hM.take hok hc hE
          refine (take_runs w g x.gm x.hp x.l x.M x.t x.h x.s n k hB hH hf hnd hok hM hc hno hk (by omega) K hK).mono ?_
          rintro e w' ⟨b, hp', rfl, hA, hB', hH', hf', hn', hz', hb⟩
          refine ⟨fun h => absurd hE h, fun _ => ⟨b, ⟨takeL x.l n, hp', x.gm, _, _, _, _⟩, ?_, ?_, rfl, rfl, ⟨hL0, hMk, ?_, ?_⟩, ?_, hH', hn', hz'⟩, hb⟩
          · rw [hO, ofL_keyE]
          · rw [hO, ofL_keyE, ofL_nonceE, List.take_append_drop]; exact hA
          · rw [hL]; exact hf'
          · exact (List.nodup_cons.1 hn').2
          · show Blk w' g 81 (lineC _ _ _ (takeL x.l n).link (takeL x.l n).place _)
            rw [hL]; dsimp only; exact hB'
  · refine (take_refused w g x.gm x.hp x.l x.M x.t x.h x.s n hB hH hok hM hc).mono ?_
    rintro e w' ⟨rfl, hb⟩
    exact ⟨fun _ => rfl, fun h0 => absurd (h0.symm.trans (hM.refuse hok hc)).symm hc, hb.mono hK.2.2⟩
end Go.Proofs.YtmncihhofppkdaaDoor
