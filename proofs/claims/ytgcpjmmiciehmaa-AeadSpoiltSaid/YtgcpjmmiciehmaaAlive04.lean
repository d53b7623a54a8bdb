/- CONTRACT: burrowlaw04.alive. -/
import Derived.Test.YtgcpjmmiciehmaaOpenW
import Derived.Test.YtgcpjmmiciehmaaSealLaw
import Derived.Test.YtgcpjmmiciehmaaNum
import Derived.Test.YtgcpjmmiciehmaaErr
import Derived.Lib.SlBytesConst
namespace Go.Proofs.Ytgcpjmmiciehmaa
open Go.RowKit
set_option linter.unusedVariables false
set_option linter.unusedSimpArgs false

theorem Rd.newF {α : Type} (f : α → Value) (w : World) (E : TypeId) (fr : Nat × Nat) (xs : List α) : Rd f (w.alloc (.cells (xs.map f).toArray E fr)) (w.heap.size + 1) (some ⟨w.heap.size, 0, none⟩) xs := fun _ =>
  ⟨w.heap.size, 0, rfl, by omega, fun j u hu => by
    rw [Nat.zero_add, cell_of_row _ w.heap.size j (xs.map f).toArray E fr (heap_alloc_new w _)]
    simp [hu]⟩
set_option maxRecDepth 100000 in
set_option maxHeartbeats 2000000 in
theorem alive04_any (w : World) : Calls Try.prog 31 #[] w fun e w' => e = .returned (.bool true) ∧ Below w.heap.size w w' := by
  go_enter Try.func31, Try.ntmps31
  go_wp2_with fail
  refine (nonce_any 7 _).mono ?_
  rintro e w1 ⟨v1, rfl, ho1, hb1⟩
  have hn1 : nonce (BitVec.ofInt 64 7) = nonce7 := by kernel_rfl
  rw [hn1] at ho1
  obtain ⟨A1, c1, rfl, hr1, -, hc1, -⟩ := ho1.shape' (n := 12) rfl
  have HR1 := Lib.hid hr1
  have HB1 := Lib.hid hb1
  have hz1 := hb1.size
  clear ho1 hr1 hb1 hn1
  have kc := fun (w : World) (C : Array Value) (n c : Nat) => Lib.run_convert_bytes_const (P := Try.prog) w 22 5 C n c Try.underlying22 Try.underlying5
  have kc2 := fun (C : Array Value) (n c : Nat) (o : Obj) => Lib.run_convert_bytes_const (P := Try.prog) (w1.alloc o) 22 5 C n c Try.underlying22 Try.underlying5
  simp only [World.size_alloc] at kc2
  have hb0 : sealBad 12 1 4 = 0 := rfl
  have hop := open_seal K1 nonce7 [99#8] [116#8, 101#8, 120#8, 116#8] rfl
  have hsl := sealV_len K1 nonce7 [99#8] [116#8, 101#8, 120#8, 116#8] rfl
  have hwk := wrong_key
  unfold sealed7 at hwk
  obtain ⟨S, hS⟩ : ∃ S, sealV K1 nonce7 [99#8] [116#8, 101#8, 120#8, 116#8] = S := ⟨_, rfl⟩
  rw [hS] at hop hsl hwk
  have hov : openV K2 nonce7 [99#8] S = [] := by unfold openV; rw [hwk]; rfl
  have HSe := Lib.hid (show ∀ (W : World) (g1 g2 : Nat), Below w1.heap.size w1 W → Rd b8 W W.heap.size (some ⟨g1, 0, none⟩) [99#8] → Rd b8 W W.heap.size (some ⟨g2, 0, none⟩) [116#8, 101#8, 120#8, 116#8] → Calls Try.prog 35 #[.agg #[.int .u8 1, .int .u8 0, .int .u8 0, .int .u8 0, .int .u8 0, .int .u8 0, .int .u8 0, .int .u8 0, .int .u8 0, .int .u8 0, .int .u8 0, .int .u8 0, .int .u8 0, .int .u8 0, .int .u8 0, .int .u8 0, .int .u8 0, .int .u8 0, .int .u8 0, .int .u8 0, .int .u8 0, .int .u8 0, .int .u8 0, .int .u8 0, .int .u8 0, .int .u8 0, .int .u8 0, .int .u8 0, .int .u8 0, .int .u8 0, .int .u8 0, .int .u8 0], .slice A1 12 c1, .slice (some ⟨g1, 0, none⟩) 1 1, .slice (some ⟨g2, 0, none⟩) 4 4] W fun e w' => ∃ v, e = .returned (.tuple #[v, .nilIface]) ∧ Own b8 w' W.heap.size 5 v S ∧ Below W.heap.size W w' from fun W g1 g2 hb h1 h2 => by
    have h := seal_any W K1 rfl A1 (some ⟨g1, 0, none⟩) (some ⟨g2, 0, none⟩) 12 c1 1 1 4 4 w1.heap.size W.heap.size W.heap.size nonce7 [99#8] [116#8, 101#8, 120#8, 116#8] (HR1.out.below hb) hb.size rfl hc1 h1 (Nat.le_refl _) rfl h2 (Nat.le_refl _) rfl
    rw [hS, hb0, errV_zero] at h
    exact h)
  have HOp := Lib.hid (show ∀ (W : World) (g1 : Nat) (A2 : Option Addr) (c2 : Nat), Below w1.heap.size w1 W → Rd b8 W W.heap.size (some ⟨g1, 0, none⟩) [99#8] → Rd b8 W W.heap.size A2 S → 20 ≤ c2 → Calls Try.prog 37 #[.agg #[.int .u8 1, .int .u8 0, .int .u8 0, .int .u8 0, .int .u8 0, .int .u8 0, .int .u8 0, .int .u8 0, .int .u8 0, .int .u8 0, .int .u8 0, .int .u8 0, .int .u8 0, .int .u8 0, .int .u8 0, .int .u8 0, .int .u8 0, .int .u8 0, .int .u8 0, .int .u8 0, .int .u8 0, .int .u8 0, .int .u8 0, .int .u8 0, .int .u8 0, .int .u8 0, .int .u8 0, .int .u8 0, .int .u8 0, .int .u8 0, .int .u8 0, .int .u8 0], .slice A1 12 c1, .slice (some ⟨g1, 0, none⟩) 1 1, .slice A2 20 c2] W fun e w' => ∃ v, e = .returned (.tuple #[v, .nilIface]) ∧ Own b8 w' W.heap.size 5 v [116#8, 101#8, 120#8, 116#8] ∧ Below W.heap.size W w' from fun W g1 A2 c2 hb h1 h2 h20 => by
    have h := open_any W K1 rfl A1 (some ⟨g1, 0, none⟩) A2 12 c1 1 1 20 c2 w1.heap.size W.heap.size W.heap.size nonce7 [99#8] S (HR1.out.below hb) hb.size rfl hc1 h1 (Nat.le_refl _) rfl h2 (Nat.le_refl _) hsl h20 (by decide)
    rw [hop.1, hop.2, errV_zero] at h
    exact h)
  have HOw := Lib.hid (show ∀ (W : World) (g1 : Nat) (A2 : Option Addr) (c2 : Nat), Below w1.heap.size w1 W → Rd b8 W W.heap.size (some ⟨g1, 0, none⟩) [99#8] → Rd b8 W W.heap.size A2 S → 20 ≤ c2 → Calls Try.prog 37 #[.agg #[.int .u8 2, .int .u8 0, .int .u8 0, .int .u8 0, .int .u8 0, .int .u8 0, .int .u8 0, .int .u8 0, .int .u8 0, .int .u8 0, .int .u8 0, .int .u8 0, .int .u8 0, .int .u8 0, .int .u8 0, .int .u8 0, .int .u8 0, .int .u8 0, .int .u8 0, .int .u8 0, .int .u8 0, .int .u8 0, .int .u8 0, .int .u8 0, .int .u8 0, .int .u8 0, .int .u8 0, .int .u8 0, .int .u8 0, .int .u8 0, .int .u8 0, .int .u8 0], .slice A1 12 c1, .slice (some ⟨g1, 0, none⟩) 1 1, .slice A2 20 c2] W fun e w' => ∃ v, e = .returned (.tuple #[v, errV 2]) ∧ Own b8 w' W.heap.size 5 v [] ∧ Below W.heap.size W w' from fun W g1 A2 c2 hb h1 h2 h20 => by
    have h := open_any W K2 rfl A1 (some ⟨g1, 0, none⟩) A2 12 c1 1 1 20 c2 w1.heap.size W.heap.size W.heap.size nonce7 [99#8] S (HR1.out.below hb) hb.size rfl hc1 h1 (Nat.le_refl _) rfl h2 (Nat.le_refl _) hsl h20 (by decide)
    rw [hwk, hov] at h
    exact h)
  have HSl := Lib.hid (show S.length = 20 from hsl)
  clear hop hsl hwk hov hS hb0
  go_wp2_with fail
  have hr2 := Rd.newF b8 (w1.alloc (.cells ([99#8].map b8).toArray 5 (1, 2))) 5 (4, 5) [116#8, 101#8, 120#8, 116#8]
  rw [World.size_alloc] at hr2
  refine (HSe.out _ w1.heap.size (w1.heap.size + 1) (((Below.refl _ w1).alloc (Nat.le_refl _) _).alloc (by simp) _) (((Rd.newF b8 w1 5 (1, 2) [99#8]).alloc (by simp) _).more (by simp)) (hr2.more (by simp))).mono ?_
  rintro e w2 ⟨v2, rfl, ho2, hb2⟩
  obtain ⟨A2, c2, rfl, hr2', -, hc2, -⟩ := ho2.shape' HSl.out
  have hz2 := hb2.size
  simp only [World.size_alloc] at hz2
  have HX2 := Lib.hid (show Below w1.heap.size w1 w2 from (((Below.refl _ w1).alloc (Nat.le_refl _) _).alloc (by simp) _).trans (hb2.mono (by simp; omega)))
  have HR2 := Lib.hid hr2'
  clear ho2 hr2' hb2 hr2 HSe kc2
  go_wp2_with fail
  refine (HOp.out _ w2.heap.size A2 c2 (HX2.out.alloc (by omega) _) ((Rd.newF b8 w2 5 (1, 2) [99#8]).more (by simp)) ((HR2.out.alloc (Nat.le_refl _) _).more (by simp)) hc2).mono ?_
  rintro e w3 ⟨v3, rfl, ho3, hb3⟩
  obtain ⟨A3, c3, rfl, hr3, -, -, -⟩ := ho3.shape' (n := 4) rfl
  have hz3 := hb3.size
  simp only [World.size_alloc] at hz3
  have HX3 := Lib.hid (show Below w1.heap.size w1 w3 from (HX2.out.alloc (by omega) _).trans (hb3.mono (by simp; omega)))
  have HY3 := Lib.hid (show Below w2.heap.size w2 w3 from ((Below.refl _ w2).alloc (Nat.le_refl _) _).trans (hb3.mono (by simp)))
  have HR3 := Lib.hid hr3
  have HR23 := Lib.hid (show Rd b8 w3 w3.heap.size A2 S from (HR2.out.below HY3.out).more (by omega))
  clear ho3 hr3 hb3 HOp HR2 HY3
  go_wp2_with fail
  refine (HOw.out _ w3.heap.size A2 c2 (HX3.out.alloc (by omega) _) ((Rd.newF b8 w3 5 (1, 2) [99#8]).more (by simp)) ((HR23.out.alloc (Nat.le_refl _) _).more (by simp)) hc2).mono ?_
  rintro e w4 ⟨v4, rfl, ho4, hb4⟩
  have hz4 := hb4.size
  simp only [World.size_alloc] at hz4
  have HX4 := Lib.hid (show Below w1.heap.size w1 w4 from (HX3.out.alloc (by omega) _).trans (hb4.mono (by simp; omega)))
  have HY4 := Lib.hid (show Below w3.heap.size w3 w4 from ((Below.refl _ w3).alloc (Nat.le_refl _) _).trans (hb4.mono (by simp)))
  have HR4 := Lib.hid (HR3.out.below HY4.out)
  have hr1 : (convert 22 9 (.slice A3 4 c3)).run Try.prog w4 = .ok (.string (str [116#8, 101#8, 120#8, 116#8])) w4 := run_str (P := Try.prog) HR4.out 22 9 5 c3 Try.underlying22 Try.underlying5 Try.underlying9
  clear ho4 hb4 HOw HR3 HR23 HY4 kc
  have hst : (str [116#8, 101#8, 120#8, 116#8]).toList = [116, 101, 120, 116] := by rw [ByteArray.toList_eq, str_toList]; rfl
  go_wp2_with fail
  refine (is_any 2 2 _).mono ?_
  rintro e w5 ⟨rfl, rfl⟩
  go_wp2_with fail
  go_ret
  exact ⟨rfl, HB1.out.trans (HX4.out.mono hz1)⟩
end Go.Proofs.Ytgcpjmmiciehmaa
