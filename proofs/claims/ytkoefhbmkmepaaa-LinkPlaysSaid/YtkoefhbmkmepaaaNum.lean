/- CONTRACTS: package burrownum: Same. -/
import Derived.Test.YtkoefhbmkmepaaaMem
import Derived.Test.YtkoefhbmkmepaaaRows
import Derived.WalkSpells
import Derived.WalkLawsBesides
namespace Go.Proofs.Ytkoefhbmkmepaaa
open Go.RowKit

/-- a list of bytes as a string -/
def str (xs : List (BitVec 8)) : ByteArray := ⟨(xs.map fun b => UInt8.ofNat b.toNat).toArray⟩
theorem str_toList (xs : List (BitVec 8)) : (str xs).data.toList = xs.map fun b => UInt8.ofNat b.toNat := by simp [str]
theorem u8_inj {a b : BitVec 8} (h : UInt8.ofNat a.toNat = UInt8.ofNat b.toNat) : a = b := by
  have h1 := congrArg UInt8.toNat h
  have ha := a.isLt
  have hb := b.isLt
  apply BitVec.eq_of_toNat_eq
  simp only [UInt8.toNat_ofNat'] at h1
  omega
theorem map_inj' {α β : Type} (f : α → β) (hf : ∀ a b, f a = f b → a = b) : ∀ (xs ys : List α), xs.map f = ys.map f → xs = ys
  | [], [], _ => rfl
  | [], _ :: _, h => by cases h
  | _ :: _, [], h => by cases h
  | x :: xs, y :: ys, h => by
    simp only [List.map_cons, List.cons.injEq] at h
    rw [hf _ _ h.1, map_inj' f hf xs ys h.2]
theorem str_beq (xs ys : List (BitVec 8)) : ((str xs).data.toList == (str ys).data.toList) = (xs == ys) := by
  rw [Bool.eq_iff_iff, beq_iff_eq, beq_iff_eq, str_toList, str_toList]
  exact ⟨fun h => map_inj' _ (fun _ _ h => u8_inj h) _ _ h, fun h => by rw [h]⟩
theorem str_beq' (xs ys : List (BitVec 8)) : ((str xs).toList == (str ys).toList) = (xs == ys) := by
  rw [ByteArray.toList_eq, ByteArray.toList_eq]; exact str_beq xs ys
theorem str_eq (xs ys : List (BitVec 8)) (h : str xs = str ys) : xs = ys := by
  have := congrArg (fun s : ByteArray => s.data.toList) h
  have h2 := str_beq xs ys
  rw [show ((str xs).data.toList == (str ys).data.toList) = true from beq_iff_eq.2 this] at h2
  exact beq_iff_eq.1 h2.symm
theorem foldl_push : ∀ (xs : List (BitVec 8)) (s : ByteArray), (xs.map (fun b => bv b)).foldl (fun r n => r.push (UInt8.ofNat n.toNat)) s = ⟨s.data ++ (xs.map fun b => UInt8.ofNat b.toNat).toArray⟩
  | [], s => by simp
  | x :: xs, s => by
    rw [List.map_cons, List.foldl_cons, foldl_push xs]
    congr 1
    apply Array.ext'
    simp [ByteArray.push, bv_toNat]
theorem run_str {P : Program} {w : World} {B : Nat} {A : Option Addr} {xs : List (BitVec 8)} (h : Rd b8 w B A xs) (t s e : TypeId) (c : Nat)
    (ht : P.underlying t = some (.slice e)) (he : P.underlying e = some (.int .u8)) (hs : P.underlying s = some .string) :
    (convert t s (.slice A xs.length c)).run P w = .ok (.string (str xs)) w := by
  rw [run_convert_bytes_string w t s e A _ _ ht he hs]
  rcases A with _ | a
  · have hx : xs = [] := by
      rcases Nat.eq_zero_or_pos xs.length with h0 | h0
      · exact List.eq_nil_of_length_eq_zero h0
      · obtain ⟨b, off, e, _⟩ := h h0
        cases e
    subst hx
    rfl
  · have hl := run_loadCells_list (P := P) w a (xs.map b8) (h.cells rfl)
    rw [List.length_map] at hl
    have hb : xs.map b8 = (xs.map fun b => bv b).map (Value.int .u8) := by rw [List.map_map]; rfl
    rw [hb] at hl
    rw [run_bytesToString w a xs.length c (xs.map fun b => bv b) hl, foldl_push]
    congr 2
    simp [str]

set_option maxRecDepth 100000 in
theorem same_any {w : World} {B1 B2 : Nat} {A1 A2 : Option Addr} {xs ys : List (BitVec 8)} {n1 n2 : Nat} (c1 c2 : Nat) (h1 : Rd b8 w B1 A1 xs) (h2 : Rd b8 w B2 A2 ys) (hn1 : xs.length = n1) (hn2 : ys.length = n2) :
    Calls Try.prog 20 #[.slice A1 n1 c1, .slice A2 n2 c2] w fun e w' => e = .returned (.bool (xs == ys)) ∧ w = w' := by
  subst hn1; subst hn2
  have r1 := run_str (P := Try.prog) h1 47 9 5 c1 Try.underlying47 Try.underlying5 Try.underlying9
  have r2 := run_str (P := Try.prog) h2 47 9 5 c2 Try.underlying47 Try.underlying5 Try.underlying9
  have hs := str_beq' xs ys
  go_enter Try.func20, Try.ntmps20
  go_wp2
  go_ret
  exact ⟨rfl, rfl⟩
end Go.Proofs.Ytkoefhbmkmepaaa
