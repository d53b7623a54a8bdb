/- CONTRACTS: the eye of package wire: key, wide, many[int], readNode. -/
import Derived.Test.YtloglpamnalmeaaWels
import Derived.Test.YtloglpamnalmeaaTreeD
namespace Go.Proofs.Ytloglpamnalmeaa
open Go.RowKit
set_option linter.unusedVariables false
set_option linter.unusedSimpArgs false

theorem infoKeyE : (Try.prog.info? 47).map (·.size) = some 32 := by kernel_rfl
theorem infoWideE : (Try.prog.info? 62).map (·.size) = some 64 := by kernel_rfl
set_option maxRecDepth 100000 in
set_option maxHeartbeats 1000000 in
theorem keyE_any {w : World} {B g : Nat} {ys : List (BitVec 8)} {bad : Bool} (hE : Eye w B g ys bad) (hy : ys.length ≤ 100000000) :
    Calls Try.prog 107 #[.pointer (some ⟨g, 0, none⟩)] w fun e w' => e = .returned (arrV b8 (tkO 32 ys)) ∧ Eye w' B g (tkR 32 ys) (tkB 32 ys bad) ∧ w.grownBy w' (some g) := by
  obtain ⟨out, hout⟩ : ∃ out, out = tkO 32 ys := ⟨_, rfl⟩
  have hol : out.length = 32 := by rw [hout]; exact tkO_len _ _
  have hsz := hE.size
  have hgl := hE.lt
  have hle := hE.le
  have HW := Lib.hid ((Below.refl w.heap.size w).alloc (Nat.le_refl _) (.cells ((List.replicate 32 0#8).map b8).toArray 47))
  have HA := Lib.hid (Arr.new b8 w 47 (List.replicate 32 0#8))
  have ht := take_any (hE.below ((Below.refl w.heap.size w).alloc (Nat.le_refl _) (.cells ((List.replicate 32 0#8).map b8).toArray 47)) (Nat.le_refl _)) 32 hy (by omega)
  rw [← hout] at ht ⊢
  have HT := Lib.hid ht
  have HOl := Lib.hid hol
  clear ht hout hol hE
  rw [arrV_mk]
  go_enter Try.func107, Try.ntmps107
  go_wp2_with fail
  refine HT.out.mono ?_
  rintro e w1 ⟨v1, rfl, ho1, he1, hb1⟩
  obtain ⟨A1, c1, rfl, hr1, -, -, -⟩ := ho1.shape' HOl.out
  obtain ⟨b, cap, e1, hbB, hblt, -⟩ := ho1.form' HOl.out (by omega)
  cases e1
  have HR1 := Lib.hid (rd_range hr1)
  have HE1 := Lib.hid he1
  have HG1 := Lib.hid hb1
  have hz1 : w.heap.size + 1 ≤ w1.heap.size := by have := hb1.size; simpa using this
  have HA1 := Lib.hid (HA.out.grown hb1 (by intro e; have := Option.some.inj e; omega))
  have harr : ∀ w, (Instr.arrayAt 47 (.slice (some ⟨b, 0, none⟩) 32 c1)).run Try.prog w = .ok (.pointer (some ⟨b, 0, none⟩)) w := fun w => by kernel_rfl
  clear ho1 he1 hb1 hr1
  go_wp2_with (first
    | (refine wpList_load_mid rfl 47 (.tmp 5) rfl b 0 rfl (out.map b8) _ HR1.out Try.underlying47 rfl (by rw [List.length_map, HOl.out]; exact infoKeyE) ?_)
    | (refine wpList_store_arr rfl 47 _ _ rfl w.heap.size rfl out rfl _ _ HA1.out (by rw [HOl.out]; rfl) (by rw [HOl.out]; exact infoKeyE) b8_one' ?_; intro w3 hp3 hg3; have HP3 := Lib.hid hp3; have HG3 := Lib.hid hg3; clear hp3 hg3))
  have hne : w.heap.size ≠ g := by omega
  refine bodyPost_ret (v := .agg (out.map b8).toArray) (results_arr (g := w.heap.size) rfl _ _ _ _ _ rfl HP3.out Try.underlying47 rfl (by rw [HOl.out]; exact infoKeyE)) rfl ?_
  have hg : w.grownBy w3 (some g) := grownBy_trans (grownBy_trans (World.grownBy_alloc w _ (some g)) HG1.out (fun _ e => .inl e)) HG3.out (fun k e => by cases e; exact .inr (Nat.le_refl _))
  refine ⟨rfl, ?_, hg⟩
  exact eye_grown HE1.out HG3.out hne hgl
set_option maxRecDepth 100000 in
set_option maxHeartbeats 1000000 in
theorem wideE_any {w : World} {B g : Nat} {ys : List (BitVec 8)} {bad : Bool} (hE : Eye w B g ys bad) (hy : ys.length ≤ 100000000) :
    Calls Try.prog 75 #[.pointer (some ⟨g, 0, none⟩)] w fun e w' => e = .returned (arrV b8 (tkO 64 ys)) ∧ Eye w' B g (tkR 64 ys) (tkB 64 ys bad) ∧ w.grownBy w' (some g) := by
  obtain ⟨out, hout⟩ : ∃ out, out = tkO 64 ys := ⟨_, rfl⟩
  have hol : out.length = 64 := by rw [hout]; exact tkO_len _ _
  have hsz := hE.size
  have hgl := hE.lt
  have hle := hE.le
  have HW := Lib.hid ((Below.refl w.heap.size w).alloc (Nat.le_refl _) (.cells ((List.replicate 64 0#8).map b8).toArray 62))
  have HA := Lib.hid (Arr.new b8 w 62 (List.replicate 64 0#8))
  have ht := take_any (hE.below ((Below.refl w.heap.size w).alloc (Nat.le_refl _) (.cells ((List.replicate 64 0#8).map b8).toArray 62)) (Nat.le_refl _)) 64 hy (by omega)
  rw [← hout] at ht ⊢
  have HT := Lib.hid ht
  have HOl := Lib.hid hol
  clear ht hout hol hE
  rw [arrV_mk]
  go_enter Try.func75, Try.ntmps75
  go_wp2_with fail
  refine HT.out.mono ?_
  rintro e w1 ⟨v1, rfl, ho1, he1, hb1⟩
  obtain ⟨A1, c1, rfl, hr1, -, -, -⟩ := ho1.shape' HOl.out
  obtain ⟨b, cap, e1, hbB, hblt, -⟩ := ho1.form' HOl.out (by omega)
  cases e1
  have HR1 := Lib.hid (rd_range hr1)
  have HE1 := Lib.hid he1
  have HG1 := Lib.hid hb1
  have hz1 : w.heap.size + 1 ≤ w1.heap.size := by have := hb1.size; simpa using this
  have HA1 := Lib.hid (HA.out.grown hb1 (by intro e; have := Option.some.inj e; omega))
  have harr : ∀ w, (Instr.arrayAt 62 (.slice (some ⟨b, 0, none⟩) 64 c1)).run Try.prog w = .ok (.pointer (some ⟨b, 0, none⟩)) w := fun w => by kernel_rfl
  clear ho1 he1 hb1 hr1
  go_wp2_with (first
    | (refine wpList_load_mid rfl 62 (.tmp 5) rfl b 0 rfl (out.map b8) _ HR1.out Try.underlying62 rfl (by rw [List.length_map, HOl.out]; exact infoWideE) ?_)
    | (refine wpList_store_arr rfl 62 _ _ rfl w.heap.size rfl out rfl _ _ HA1.out (by rw [HOl.out]; rfl) (by rw [HOl.out]; exact infoWideE) b8_one' ?_; intro w3 hp3 hg3; have HP3 := Lib.hid hp3; have HG3 := Lib.hid hg3; clear hp3 hg3))
  have hne : w.heap.size ≠ g := by omega
  refine bodyPost_ret (v := .agg (out.map b8).toArray) (results_arr (g := w.heap.size) rfl _ _ _ _ _ rfl HP3.out Try.underlying62 rfl (by rw [HOl.out]; exact infoWideE)) rfl ?_
  have hg : w.grownBy w3 (some g) := grownBy_trans (grownBy_trans (World.grownBy_alloc w _ (some g)) HG1.out (fun _ e => .inl e)) HG3.out (fun k e => by cases e; exact .inr (Nat.le_refl _))
  refine ⟨rfl, ?_, hg⟩
  exact eye_grown HE1.out HG3.out hne hgl

/-- what is read: what was there, what is left, and whether something was wrong -/
abbrev St : Type := List (BitVec 8) × Bool
def pTk (N : Nat) (s : St) : List (BitVec 8) × St := (tkO N s.1, (tkR N s.1, tkB N s.1 s.2))
def pNum (N : Nat) (s : St) : Nat × St := (beVal (tkO N s.1), (tkR N s.1, tkB N s.1 s.2))
def pMany {α : Type} (one : St → α × St) : Nat → St → List α × St
  | 0, s => ([], s)
  | n + 1, s => if s.2 then ([], s) else ((one s).1 :: (pMany one n (one s).2).1, (pMany one n (one s).2).2)
theorem pMany_bad {α : Type} (one : St → α × St) (n : Nat) {s : St} (h : s.2 = true) : pMany one n s = ([], s) := by
  cases n with
  | zero => rfl
  | succ n => rw [pMany, if_pos h]
theorem pMany_succ {α : Type} (one : St → α × St) (n : Nat) {s : St} (h : s.2 = false) : pMany one (n + 1) s = ((one s).1 :: (pMany one n (one s).2).1, (pMany one n (one s).2).2) := by rw [pMany, if_neg (by simp [h])]
theorem pMany_len {α : Type} (one : St → α × St) : ∀ (n : Nat) (s : St), (pMany one n s).1.length ≤ n
  | 0, s => by simp [pMany]
  | n + 1, s => by
    unfold pMany; split
    · simp
    · have := pMany_len one n (one s).2
      simp; omega
theorem pMany_all {α : Type} (one : St → α × St) (P : α → Prop) (h : ∀ s, P (one s).1) : ∀ (n : Nat) (s : St), ∀ z ∈ (pMany one n s).1, P z
  | 0, s => by simp [pMany]
  | n + 1, s => by
    unfold pMany; split
    · simp
    · intro z hz
      rcases List.mem_cons.1 hz with rfl | hz
      · exact h s
      · exact pMany_all one P h n _ z hz
theorem pNum1_lt (s : St) : (pNum 1 s).1 < 256 := beVal_lt 1 _ (tkO_len _ _)
theorem pNum_le (N : Nat) (s : St) : (pNum N s).2.1.length ≤ s.1.length := tkR_le _ _
theorem pTk_le (N : Nat) (s : St) : (pTk N s).2.1.length ≤ s.1.length := tkR_le _ _
theorem pTk_len (N : Nat) (s : St) : (pTk N s).1.length = N := tkO_len _ _
theorem pMany_le {α : Type} (one : St → α × St) (h : ∀ s, (one s).2.1.length ≤ s.1.length) : ∀ (n : Nat) (s : St), (pMany one n s).2.1.length ≤ s.1.length
  | 0, s => by simp [pMany]
  | n + 1, s => by
    unfold pMany; split
    · simp
    · exact Nat.le_trans (pMany_le one h n _) (h s)
def pOne (s : St) : Int × St := (((pNum 1 s).1 : Int), (pNum 1 s).2)
def pList {α : Type} (one : St → α × St) (s : St) : List α × St := pMany one (pNum 1 s).1 (pNum 1 s).2
theorem pList_le {α : Type} (one : St → α × St) (h : ∀ s, (one s).2.1.length ≤ s.1.length) (s : St) : (pList one s).2.1.length ≤ s.1.length := Nat.le_trans (pMany_le one h _ _) (pNum_le _ _)
theorem pList_len {α : Type} (one : St → α × St) (s : St) : (pList one s).1.length ≤ 255 := by
  have := pMany_len one (pNum 1 s).1 (pNum 1 s).2
  have := pNum1_lt s
  show (pMany one (pNum 1 s).1 (pNum 1 s).2).1.length ≤ 255
  omega
def nodeS1 (s : St) : St := ((pNum 1 s).2.1, (pNum 1 s).2.2 || decide (1 < (pNum 1 s).1))
def nodeS2 (s : St) : St := (pNum 1 (nodeS1 s)).2
def nodeS3 (s : St) : St := (pTk 32 (nodeS2 s)).2
def nodeS4 (s : St) : St := (pTk 32 (nodeS3 s)).2
def nodeS5 (s : St) : St := (pTk 32 (nodeS4 s)).2
def pNode (s : St) : NodeD × St :=
  (⟨decide ((pNum 1 s).1 = 1), ((pNum 1 (nodeS1 s)).1 : Int), (pTk 32 (nodeS2 s)).1, (pTk 32 (nodeS3 s)).1, (pTk 32 (nodeS4 s)).1, (pList pOne (nodeS5 s)).1⟩, (pList pOne (nodeS5 s)).2)
theorem pOne_le (s : St) : (pOne s).2.1.length ≤ s.1.length := pNum_le _ _
theorem nodeS1_le (s : St) : (nodeS1 s).1.length ≤ s.1.length := by unfold nodeS1; exact pNum_le 1 s
theorem nodeS2_le (s : St) : (nodeS2 s).1.length ≤ s.1.length := by unfold nodeS2; have h1 := pNum_le 1 (nodeS1 s); have h2 := nodeS1_le s; exact Nat.le_trans h1 h2
theorem nodeS3_le (s : St) : (nodeS3 s).1.length ≤ s.1.length := by unfold nodeS3; have h1 := pTk_le 32 (nodeS2 s); have h2 := nodeS2_le s; exact Nat.le_trans h1 h2
theorem nodeS4_le (s : St) : (nodeS4 s).1.length ≤ s.1.length := by unfold nodeS4; have h1 := pTk_le 32 (nodeS3 s); have h2 := nodeS3_le s; exact Nat.le_trans h1 h2
theorem nodeS5_le (s : St) : (nodeS5 s).1.length ≤ s.1.length := by unfold nodeS5; have h1 := pTk_le 32 (nodeS4 s); have h2 := nodeS4_le s; exact Nat.le_trans h1 h2
theorem pNode_two (s : St) : (pNode s).2 = (pList pOne (nodeS5 s)).2 := by rw [pNode]
theorem pNode_le (s : St) : (pNode s).2.1.length ≤ s.1.length := by rw [pNode_two]; have h1 := pList_le pOne pOne_le (nodeS5 s); have h2 := nodeS5_le s; exact Nat.le_trans h1 h2
/-- an eye in a state -/
abbrev EyeS (w : World) (B g : Nat) (s : St) : Prop := Eye w B g s.1 s.2
theorem numS_any {w : World} {B g : Nat} {s : St} (hE : EyeS w B g s) (k : Nat) (si : Int) (hsi : si = (k : Int)) (hs : k ≤ 4) (hy : s.1.length ≤ 100000000) :
    Calls Try.prog 60 #[.pointer (some ⟨g, 0, none⟩), .int .i64 si] w fun e w' => e = .returned (.int .i64 ((pNum k s).1 : Int)) ∧ EyeS w' B g (pNum k s).2 ∧ w.grownBy w' (some g) := numE_any hE k si hsi hs hy
theorem keyS_any {w : World} {B g : Nat} {s : St} (hE : EyeS w B g s) (hy : s.1.length ≤ 100000000) :
    Calls Try.prog 107 #[.pointer (some ⟨g, 0, none⟩)] w fun e w' => e = .returned (arrV b8 (pTk 32 s).1) ∧ EyeS w' B g (pTk 32 s).2 ∧ w.grownBy w' (some g) := keyE_any hE hy
theorem sumS_any {w : World} {B g : Nat} {s : St} (hE : EyeS w B g s) (hy : s.1.length ≤ 100000000) :
    Calls Try.prog 59 #[.pointer (some ⟨g, 0, none⟩)] w fun e w' => e = .returned (arrV b8 (pTk 32 s).1) ∧ EyeS w' B g (pTk 32 s).2 ∧ w.grownBy w' (some g) := sumE_any hE hy
theorem wideS_any {w : World} {B g : Nat} {s : St} (hE : EyeS w B g s) (hy : s.1.length ≤ 100000000) :
    Calls Try.prog 75 #[.pointer (some ⟨g, 0, none⟩)] w fun e w' => e = .returned (arrV b8 (pTk 64 s).1) ∧ EyeS w' B g (pTk 64 s).2 ∧ w.grownBy w' (some g) := wideE_any hE hy
set_option maxRecDepth 100000 in
theorem one_any {w : World} {B g : Nat} {s : St} (hE : EyeS w B g s) (hy : s.1.length ≤ 100000000) :
    Calls Try.prog 109 #[.pointer (some ⟨g, 0, none⟩)] w fun e w' => e = .returned (.int .i64 (pOne s).1) ∧ EyeS w' B g (pOne s).2 ∧ w.grownBy w' (some g) := by
  have HN := Lib.hid (numS_any hE 1 1 rfl (by omega) hy)
  clear hE
  obtain ⟨x, hx⟩ : ∃ x, x = (pNum 1 s).1 := ⟨_, rfl⟩
  obtain ⟨s', hs'⟩ : ∃ s', s' = (pNum 1 s).2 := ⟨_, rfl⟩
  have e : pOne s = ((x : Int), s') := by rw [hx, hs']; rfl
  rw [e]
  rw [← hx, ← hs'] at HN
  clear hx hs' e
  go_enter Try.func109, Try.ntmps109
  go_wp2_with fail
  refine HN.out.mono ?_
  rintro e w1 ⟨rfl, he1, hg1⟩
  have HE1 := Lib.hid he1
  have HG1 := Lib.hid hg1
  clear he1 hg1
  go_wp2_with fail
  go_ret
  exact ⟨rfl, HE1.out, HG1.out⟩
end Go.Proofs.Ytloglpamnalmeaa
