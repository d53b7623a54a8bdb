/- PLAIN LAWS: labelled secrets, the links of a chain, what a line holds, what a number has. No program, no conditions. -/
import Derived.Test.YtmncihhofppkdaaDoorExpD
import Derived.Test.YtmncihhofppkdaaDoorWins
namespace Go.Proofs.YtmncihhofppkdaaDoor
def lKey : List (BitVec 8) := [107#8, 101#8, 121#8]
def lNext : List (BitVec 8) := [110#8, 101#8, 120#8, 116#8]
def lLeft : List (BitVec 8) := [108#8, 101#8, 102#8, 116#8]
def lRight : List (BitVec 8) := [114#8, 105#8, 103#8, 104#8, 116#8]
/-- what a labelled secret without a context is expanded by -/
def labI (lab : List (BitVec 8)) (n : Nat) : List (BitVec 8) := [BitVec.ofNat 8 (n / 256), BitVec.ofNat 8 n, BitVec.ofNat 8 lab.length] ++ lab ++ [0#8, 0#8, 0#8, 0#8]
theorem labI_len (lab : List (BitVec 8)) (n : Nat) : (labI lab n).length = lab.length + 7 := by simp [labI]
def labV (s lab : List (BitVec 8)) (n : Nat) : List (BitVec 8) := expV s (labI lab n) n
theorem labV_len (s lab : List (BitVec 8)) (n : Nat) (h : n ≤ 8160) : (labV s lab n).length = n := expV_len _ _ _ h
def derV (s lab : List (BitVec 8)) : List (BitVec 8) := labV s lab 32
theorem derV_eq (s lab : List (BitVec 8)) : derV s lab = labV s lab 32 := by unfold derV; exact Eq.refl _
theorem derV_len (s lab : List (BitVec 8)) : (derV s lab).length = 32 := labV_len _ _ _ (by decide)

/-- a number, its key, its nonce -/
structure OnceM where
  no : Int
  key : List (BitVec 8)
  nonce : List (BitVec 8)
def ofL (link : List (BitVec 8)) (n : Int) : OnceM := ⟨n, (labV link lKey 44).take 32, (labV link lKey 44).drop 32⟩
theorem ofL_key (link : List (BitVec 8)) (n : Int) : (ofL link n).key.length = 32 := by
  have h := labV_len link lKey 44 (by omega)
  unfold ofL
  generalize labV link lKey 44 = X at h ⊢
  simp only [List.length_take, h]
  rfl
theorem ofL_nonce (link : List (BitVec 8)) (n : Int) : (ofL link n).nonce.length = 12 := by
  have h := labV_len link lKey 44 (by omega)
  unfold ofL
  generalize labV link lKey 44 = X at h ⊢
  simp only [List.length_drop, h]
def zeroO : OnceM := ⟨0, List.replicate 32 0#8, []⟩
def linkAt (link : List (BitVec 8)) : Nat → List (BitVec 8)
  | 0 => link
  | k + 1 => derV (linkAt link k) lNext
theorem linkAt_len (link : List (BitVec 8)) (h : link.length = 32) (k : Nat) : (linkAt link k).length = 32 := by
  cases k with
  | zero => exact h
  | succ k => exact derV_len _ _
theorem linkAt_add (link : List (BitVec 8)) (i j : Nat) : linkAt (linkAt link i) j = linkAt link (i + j) := by
  induction j with
  | zero => rfl
  | succ j ih => show derV (linkAt (linkAt link i) j) lNext = derV (linkAt link (i + j)) lNext; rw [ih]
def runL (link : List (BitVec 8)) (n : Int) : Nat → List OnceM
  | 0 => []
  | k + 1 => runL link n k ++ [ofL (linkAt link k) (n + (k : Int))]
theorem runL_len (link : List (BitVec 8)) (n : Int) (k : Nat) : (runL link n k).length = k := by
  induction k with
  | zero => rfl
  | succ k ih => simp [runL, ih]
theorem mem_runL (link : List (BitVec 8)) (n : Int) (k : Nat) (o : OnceM) : o ∈ runL link n k ↔ ∃ j : Nat, j < k ∧ o = ofL (linkAt link j) (n + (j : Int)) := by
  induction k with
  | zero => simp [runL]
  | succ k ih =>
    simp only [runL, List.mem_append, List.mem_singleton, ih]
    constructor
    · rintro (⟨j, h1, h2⟩ | h)
      · exact ⟨j, by omega, h2⟩
      · exact ⟨k, by omega, h⟩
    · rintro ⟨j, h1, h2⟩
      rcases Nat.lt_or_ge j k with h | h
      · exact .inl ⟨j, h, h2⟩
      · have : j = k := by omega
        subst this; exact .inr h2
/-- rising numbers -/
def RiseO (l : List OnceM) : Prop := l.Pairwise fun a b => a.no < b.no
theorem runL_rise (link : List (BitVec 8)) (n : Int) (k : Nat) : RiseO (runL link n k) := by
  induction k with
  | zero => exact List.Pairwise.nil
  | succ k ih =>
    refine List.pairwise_append.2 ⟨ih, List.pairwise_singleton _ _, fun a ha b hb => ?_⟩
    obtain ⟨j, hj, rfl⟩ := (mem_runL link n k a).1 ha
    rw [List.mem_singleton] at hb; subst hb
    show n + (j : Int) < n + (k : Int); omega

/-- a leaf's chain -/
structure LineM where
  link : List (BitVec 8)
  place : Int
  held : List OnceM
  asked : List Int
  low : Int
def hiA (asked : List Int) (low : Int) : Int := asked.foldl (fun m x => if m < x then x else m) (low - 1)
theorem hiA_snoc (asked : List Int) (low n : Int) : hiA (asked ++ [n]) low = if hiA asked low < n then n else hiA asked low := by unfold hiA; rw [List.foldl_append]; rfl
def hiM (l : LineM) : Int := hiA l.asked l.low
def takeE (l : LineM) (n : Int) : Nat :=
  if n < 0 ∨ 4294967294 < n then 8 else if n < hiM l - 64 then 11 else if n < l.low then 7 else if n ∈ l.asked then 7 else if l.place < n ∧ 256 < n - l.place then 12 else 0
def heldTo (l : LineM) (n : Int) : List OnceM := l.held ++ runL l.link l.place (n + 1 - l.place).toNat
def keepO (n h : Int) (o : OnceM) : Bool := !(o.no == n) && decide (h - 64 ≤ o.no)
def takeL (l : LineM) (n : Int) : LineM :=
  ⟨linkAt l.link (n + 1 - l.place).toNat, if l.place ≤ n then n + 1 else l.place, (heldTo l n).filter (keepO n (hiA (l.asked ++ [n]) l.low)), l.asked ++ [n], l.low⟩
def pickO (held : List OnceM) (n : Int) : OnceM := held.foldl (fun out o => if o.no = n then o else out) zeroO
def takeO (l : LineM) (n : Int) : OnceM := if takeE l n = 0 then pickO (heldTo l n) n else zeroO
def takeN (l : LineM) (n : Int) : LineM := if takeE l n = 0 then takeL l n else l
def jumpB (l : LineM) (n : Int) : Bool := decide (l.place ≤ n ∧ n ≤ 4294967295)
def jumpL (l : LineM) (n : Int) : LineM := if jumpB l n then ⟨l.link, n, [], l.asked, n⟩ else l
def startL (link : List (BitVec 8)) : LineM := ⟨link, 0, [], [], 0⟩

/-- what holds of a chain that was made and asked -/
structure LOK (l : LineM) : Prop where
  len : l.link.length = 32
  low0 : 0 ≤ l.low
  lowp : l.low ≤ l.place
  top : l.place ≤ 4294967295
  hi : hiM l = l.place - 1
  asked : ∀ a ∈ l.asked, 0 ≤ a ∧ a < l.place
  rise : RiseO l.held
  held : ∀ o ∈ l.held, l.low ≤ o.no ∧ o.no < l.place ∧ o.no ∉ l.asked ∧ l.place - 65 ≤ o.no ∧ o.key.length = 32 ∧ o.nonce.length = 12
  all : ∀ n, l.low ≤ n → n < l.place → n ∉ l.asked → l.place - 65 ≤ n → ∃ o ∈ l.held, o.no = n
theorem startL_ok (link : List (BitVec 8)) (h : link.length = 32) : LOK (startL link) :=
  ⟨h, Int.le_refl _, Int.le_refl _, by show (0 : Int) ≤ 4294967295; decide, rfl, fun a ha => (by cases ha), List.Pairwise.nil, fun o ho => (by cases ho), fun n h1 h2 => by have : (0 : Int) ≤ n := h1; have : n < 0 := h2; omega⟩
theorem pick_app (a : List OnceM) (o : OnceM) (n : Int) : pickO (a ++ [o]) n = if o.no = n then o else pickO a n := by unfold pickO; rw [List.foldl_append]; rfl
theorem foldl_none (held : List OnceM) (n : Int) (z : OnceM) (h : ∀ o ∈ held, o.no ≠ n) : held.foldl (fun out o => if o.no = n then o else out) z = z := by
  induction held generalizing z with
  | nil => rfl
  | cons o r ih =>
    rw [List.foldl_cons, if_neg (h o (by simp))]
    exact ih z (fun o ho => h o (by simp [ho]))
theorem foldl_one (held : List OnceM) (z o : OnceM) (hr : RiseO held) (ho : o ∈ held) : held.foldl (fun out x => if x.no = o.no then x else out) z = o := by
  induction held generalizing z with
  | nil => cases ho
  | cons x r ih =>
    obtain ⟨h1, h2⟩ := List.pairwise_cons.1 hr
    rw [List.foldl_cons]
    rcases List.mem_cons.1 ho with rfl | ho
    · rw [if_pos rfl]
      exact foldl_none r _ _ (fun y hy => by have := h1 y hy; omega)
    · exact ih _ h2 ho
theorem pick_mem {held : List OnceM} {o : OnceM} (hr : RiseO held) (ho : o ∈ held) : pickO held o.no = o := foldl_one held zeroO o hr ho
theorem pick_none {held : List OnceM} {n : Int} (h : ∀ o ∈ held, o.no ≠ n) : pickO held n = zeroO := foldl_none held n zeroO h
theorem heldTo_rise {l : LineM} (h : LOK l) (n : Int) : RiseO (heldTo l n) := by
  refine List.pairwise_append.2 ⟨h.rise, runL_rise _ _ _, fun a ha b hb => ?_⟩
  obtain ⟨j, hj, rfl⟩ := (mem_runL _ _ _ b).1 hb
  have := (h.held a ha).2.1
  show a.no < l.place + (j : Int); omega
theorem takeE_zero {l : LineM} {n : Int} (h : takeE l n = 0) : 0 ≤ n ∧ n ≤ 4294967294 ∧ hiM l - 64 ≤ n ∧ l.low ≤ n ∧ n ∉ l.asked ∧ (l.place < n → n - l.place ≤ 256) := by
  unfold takeE at h
  split at h; cases h
  split at h; cases h
  split at h; cases h
  split at h; cases h
  split at h; cases h
  rename_i h1 h2 h3 h4 h5
  refine ⟨by omega, by omega, by omega, by omega, h4, fun h6 => by omega⟩
theorem takeL_ok {l : LineM} (h : LOK l) {n : Int} (h0 : takeE l n = 0) : LOK (takeL l n) := by
  obtain ⟨n0, n1, nh, nl, na, nf⟩ := takeE_zero h0
  have hhi := h.hi
  have hs : hiA (l.asked ++ [n]) l.low = if l.place ≤ n then n else l.place - 1 := by
    rw [hiA_snoc]; unfold hiM at hhi; rw [hhi]
    by_cases hp : l.place ≤ n
    · rw [if_pos hp, if_pos (by omega)]
    · rw [if_neg hp, if_neg (by omega)]
  have lp := h.lowp
  have tp := h.top
  refine ⟨linkAt_len _ h.len _, h.low0, ?_, ?_, ?_, ?_, ?_, ?_, ?_⟩
  · show l.low ≤ if l.place ≤ n then n + 1 else l.place
    split <;> omega
  · show (if l.place ≤ n then n + 1 else l.place) ≤ 4294967295
    split <;> omega
  · show hiA (l.asked ++ [n]) l.low = (if l.place ≤ n then n + 1 else l.place) - 1
    rw [hs]; split <;> omega
  · intro a ha
    show 0 ≤ a ∧ a < if l.place ≤ n then n + 1 else l.place
    have ha' : a ∈ l.asked ++ [n] := ha
    rcases List.mem_append.1 ha' with h1 | h1
    · have := h.asked a h1; split <;> omega
    · rw [List.mem_singleton] at h1; subst h1; split <;> omega
  · exact (heldTo_rise h n).filter _
  · intro o ho
    have ho' : o ∈ (heldTo l n).filter (keepO n (hiA (l.asked ++ [n]) l.low)) := ho
    obtain ⟨h1, h2⟩ := List.mem_filter.1 ho'
    unfold keepO at h2
    simp only [Bool.and_eq_true, Bool.not_eq_true', beq_eq_false_iff_ne, decide_eq_true_eq, hs] at h2
    show l.low ≤ o.no ∧ o.no < (if l.place ≤ n then n + 1 else l.place) ∧ o.no ∉ l.asked ++ [n] ∧ (if l.place ≤ n then n + 1 else l.place) - 65 ≤ o.no ∧ o.key.length = 32 ∧ o.nonce.length = 12
    rcases List.mem_append.1 h1 with h3 | h3
    · obtain ⟨g1, g2, g3, g4, g5, g6⟩ := h.held o h3
      refine ⟨g1, by split <;> omega, by rw [List.mem_append, List.mem_singleton]; rintro (h5 | h5); exact g3 h5; exact h2.1 h5, ?_, g5, g6⟩
      have := h2.2
      split at this <;> rename_i hp
      · rw [if_pos hp]; omega
      · rw [if_neg hp]; omega
    · obtain ⟨j, hj, rfl⟩ := (mem_runL _ _ _ o).1 h3
      have e : (ofL (linkAt l.link j) (l.place + (j : Int))).no = l.place + (j : Int) := rfl
      rw [e] at h2 ⊢
      have hp : l.place ≤ n := by omega
      rw [if_pos hp] at h2
      rw [if_pos hp]
      refine ⟨by omega, by omega, ?_, by omega, ofL_key _ _, ofL_nonce _ _⟩
      rw [List.mem_append, List.mem_singleton]
      rintro (h5 | h5)
      · have := h.asked _ h5; omega
      · exact h2.1 h5
  · intro m m1 m2 m3 m4
    have m1' : l.low ≤ m := m1
    have m2' : m < (if l.place ≤ n then n + 1 else l.place) := m2
    have m3' : m ∉ l.asked ++ [n] := m3
    have m4' : (if l.place ≤ n then n + 1 else l.place) - 65 ≤ m := m4
    rw [List.mem_append, List.mem_singleton, not_or] at m3'
    show ∃ o ∈ (heldTo l n).filter (keepO n (hiA (l.asked ++ [n]) l.low)), o.no = m
    have kk : ∀ o : OnceM, o.no = m → keepO n (hiA (l.asked ++ [n]) l.low) o = true := by
      intro o ho
      unfold keepO
      rw [ho, hs]
      simp only [Bool.and_eq_true, Bool.not_eq_true', beq_eq_false_iff_ne, decide_eq_true_eq]
      refine ⟨m3'.2, ?_⟩
      by_cases hp : l.place ≤ n
      · rw [if_pos hp] at m4' ⊢; omega
      · rw [if_neg hp] at m4' ⊢; omega
    by_cases hm : m < l.place
    · obtain ⟨o, ho, hn⟩ := h.all m m1' hm m3'.1 (by split at m4' <;> omega)
      exact ⟨o, List.mem_filter.2 ⟨List.mem_append.2 (.inl ho), kk o hn⟩, hn⟩
    · have hp : l.place ≤ n := by
        apply Decidable.byContradiction; intro hp; rw [if_neg hp] at m2'; omega
      rw [if_pos hp] at m2'
      refine ⟨ofL (linkAt l.link (m - l.place).toNat) (l.place + ((m - l.place).toNat : Int)), List.mem_filter.2 ⟨List.mem_append.2 (.inr ((mem_runL _ _ _ _).2 ⟨(m - l.place).toNat, by omega, rfl⟩)), kk _ (by show l.place + ((m - l.place).toNat : Int) = m; omega)⟩, by show l.place + ((m - l.place).toNat : Int) = m; omega⟩
theorem takeN_ok {l : LineM} (h : LOK l) (n : Int) : LOK (takeN l n) := by
  unfold takeN; split
  · exact takeL_ok h (by assumption)
  · exact h
end Go.Proofs.YtmncihhofppkdaaDoor
