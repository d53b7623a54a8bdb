/- PLAIN LAW: the digests' words, rounds, pieces (both widths). No program, no conditions. -/
import Derived.Test.YtmncihhofppkdaaDoorBits
namespace Go.Proofs.YtmncihhofppkdaaDoor

/-- eight words -/
structure S8 (n : Nat) where
  a : BitVec n
  b : BitVec n
  c : BitVec n
  d : BitVec n
  e : BitVec n
  f : BitVec n
  g : BitVec n
  h : BitVec n
section
variable {n : Nat}
def S8.list (s : S8 n) : List (BitVec n) := [s.a, s.b, s.c, s.d, s.e, s.f, s.g, s.h]
theorem S8.list_len (s : S8 n) : s.list.length = 8 := rfl
def S8.add (s t : S8 n) : S8 n := ⟨s.a + t.a, s.b + t.b, s.c + t.c, s.d + t.d, s.e + t.e, s.f + t.f, s.g + t.g, s.h + t.h⟩
/-- a digest's parts -/
structure Sha (n : Nat) where
  S0 : BitVec n → BitVec n
  S1 : BitVec n → BitVec n
  s0 : BitVec n → BitVec n
  s1 : BitVec n → BitVec n
  word : List (BitVec 8) → Nat → BitVec n
  K : List (BitVec n)
  size : Nat
def Sha.step (c : Sha n) (k w : BitVec n) (s : S8 n) : S8 n :=
  let t1 := s.h + c.S1 s.e + (s.e &&& s.f ^^^ ~~~s.e &&& s.g) + k + w
  let t2 := c.S0 s.a + (s.a &&& s.b ^^^ s.a &&& s.c ^^^ s.b &&& s.c)
  ⟨t1 + t2, s.a, s.b, s.c, s.d + t1, s.e, s.f, s.g⟩
def Sha.rounds (c : Sha n) (w : List (BitVec n)) (s : S8 n) : Nat → S8 n
  | 0 => s
  | i + 1 => c.step (c.K.getD i 0) (w.getD i 0) (c.rounds w s i)
def Sha.next (c : Sha n) (p : List (BitVec 8)) (l : List (BitVec n)) : BitVec n :=
  if l.length < 16 then c.word p l.length else c.s1 (l.getD (l.length - 2) 0) + l.getD (l.length - 7) 0 + c.s0 (l.getD (l.length - 15) 0) + l.getD (l.length - 16) 0
def Sha.sched (c : Sha n) (p : List (BitVec 8)) : Nat → List (BitVec n)
  | 0 => []
  | i + 1 => c.sched p i ++ [c.next p (c.sched p i)]
theorem Sha.sched_len (c : Sha n) (p : List (BitVec 8)) (i : Nat) : (c.sched p i).length = i := by
  induction i with
  | zero => rfl
  | succ i ih => rw [Sha.sched, List.length_append, ih]; rfl
/-- a state behind a piece -/
def Sha.piece (c : Sha n) (s : S8 n) (p : List (BitVec 8)) : S8 n := s.add (c.rounds (c.sched p c.K.length) s c.K.length)
/-- a state behind so many pieces -/
def Sha.pieces (c : Sha n) : Nat → List (BitVec 8) → S8 n → S8 n
  | 0, _, s => s
  | k + 1, bs, s => Sha.pieces c k (bs.drop c.size) (c.piece s (bs.take c.size))
theorem Sha.pieces_add (c : Sha n) (j k : Nat) (bs : List (BitVec 8)) (s : S8 n) : c.pieces (j + k) bs s = c.pieces k (bs.drop (j * c.size)) (c.pieces j bs s) := by
  induction j generalizing bs s with
  | zero => simp [Sha.pieces]
  | succ j ih =>
    rw [Nat.succ_add, Sha.pieces, Sha.pieces, ih, List.drop_drop]
    congr 2
    rw [Nat.succ_mul]; omega
theorem Sha.pieces_app (c : Sha n) (k : Nat) (bs r : List (BitVec 8)) (s : S8 n) (h : k * c.size ≤ bs.length) : c.pieces k (bs ++ r) s = c.pieces k bs s := by
  induction k generalizing bs s with
  | zero => rfl
  | succ k ih =>
    rw [Nat.succ_mul] at h
    rw [Sha.pieces, Sha.pieces, List.take_append_of_le_length (by omega), List.drop_append_of_le_length (by omega), ih _ _ (by rw [List.length_drop]; omega)]
end
def rotl {n : Nat} (x : BitVec n) (k : Nat) : BitVec n := x <<< k ||| x >>> (n - k)
/-- four, eight bytes as a word, the highest first -/
def word32 (a b c d : BitVec 8) : BitVec 32 := a.setWidth 32 <<< 24 ||| b.setWidth 32 <<< 16 ||| c.setWidth 32 <<< 8 ||| d.setWidth 32
def wordUp : List (BitVec 8) → BitVec 64 → BitVec 64
  | [], x => x
  | b :: bs, x => wordUp bs (x <<< 8 ||| b.setWidth 64)
def K64 : List (BitVec 64) := [
  0x428a2f98d728ae22, 0x7137449123ef65cd, 0xb5c0fbcfec4d3b2f, 0xe9b5dba58189dbbc,
  0x3956c25bf348b538, 0x59f111f1b605d019, 0x923f82a4af194f9b, 0xab1c5ed5da6d8118,
  0xd807aa98a3030242, 0x12835b0145706fbe, 0x243185be4ee4b28c, 0x550c7dc3d5ffb4e2,
  0x72be5d74f27b896f, 0x80deb1fe3b1696b1, 0x9bdc06a725c71235, 0xc19bf174cf692694,
  0xe49b69c19ef14ad2, 0xefbe4786384f25e3, 0x0fc19dc68b8cd5b5, 0x240ca1cc77ac9c65,
  0x2de92c6f592b0275, 0x4a7484aa6ea6e483, 0x5cb0a9dcbd41fbd4, 0x76f988da831153b5,
  0x983e5152ee66dfab, 0xa831c66d2db43210, 0xb00327c898fb213f, 0xbf597fc7beef0ee4,
  0xc6e00bf33da88fc2, 0xd5a79147930aa725, 0x06ca6351e003826f, 0x142929670a0e6e70,
  0x27b70a8546d22ffc, 0x2e1b21385c26c926, 0x4d2c6dfc5ac42aed, 0x53380d139d95b3df,
  0x650a73548baf63de, 0x766a0abb3c77b2a8, 0x81c2c92e47edaee6, 0x92722c851482353b,
  0xa2bfe8a14cf10364, 0xa81a664bbc423001, 0xc24b8b70d0f89791, 0xc76c51a30654be30,
  0xd192e819d6ef5218, 0xd69906245565a910, 0xf40e35855771202a, 0x106aa07032bbd1b8,
  0x19a4c116b8d2d0c8, 0x1e376c085141ab53, 0x2748774cdf8eeb99, 0x34b0bcb5e19b48a8,
  0x391c0cb3c5c95a63, 0x4ed8aa4ae3418acb, 0x5b9cca4f7763e373, 0x682e6ff3d6b2b8a3,
  0x748f82ee5defb2fc, 0x78a5636f43172f60, 0x84c87814a1f0ab72, 0x8cc702081a6439ec,
  0x90befffa23631e28, 0xa4506cebde82bde9, 0xbef9a3f7b2c67915, 0xc67178f2e372532b,
  0xca273eceea26619c, 0xd186b8c721c0c207, 0xeada7dd6cde0eb1e, 0xf57d4f7fee6ed178,
  0x06f067aa72176fba, 0x0a637dc5a2c898a6, 0x113f9804bef90dae, 0x1b710b35131c471b,
  0x28db77f523047d84, 0x32caab7b40c72493, 0x3c9ebe0a15c9bebc, 0x431d67c49c100d4c,
  0x4cc5d4becb3e42b6, 0x597f299cfc657e2a, 0x5fcb6fab3ad6faec, 0x6c44198c4a475817]
def K32 : List (BitVec 32) := (K64.take 64).map fun (x : BitVec 64) => (x >>> 32).setWidth 32
def sha32 : Sha 32 where
  S0 x := rotl x 30 ^^^ rotl x 19 ^^^ rotl x 10
  S1 x := rotl x 26 ^^^ rotl x 21 ^^^ rotl x 7
  s0 x := rotl x 25 ^^^ rotl x 14 ^^^ x >>> 3
  s1 x := rotl x 15 ^^^ rotl x 13 ^^^ x >>> 10
  word p i := word32 (p.getD (4 * i) 0) (p.getD (4 * i + 1) 0) (p.getD (4 * i + 2) 0) (p.getD (4 * i + 3) 0)
  K := K32
  size := 64
def sha64 : Sha 64 where
  S0 x := rotl x 36 ^^^ rotl x 30 ^^^ rotl x 25
  S1 x := rotl x 50 ^^^ rotl x 46 ^^^ rotl x 23
  s0 x := rotl x 63 ^^^ rotl x 56 ^^^ x >>> 7
  s1 x := rotl x 45 ^^^ rotl x 3 ^^^ x >>> 6
  word p i := wordUp ((p.drop (8 * i)).take 8) 0
  K := K64
  size := 128
def bytes32 (x : BitVec 32) : List (BitVec 8) := [(x >>> 24).setWidth 8, (x >>> 16).setWidth 8, (x >>> 8).setWidth 8, x.setWidth 8]
def bytes64 (x : BitVec 64) : List (BitVec 8) := [(x >>> 56).setWidth 8, (x >>> 48).setWidth 8, (x >>> 40).setWidth 8, (x >>> 32).setWidth 8, (x >>> 24).setWidth 8, (x >>> 16).setWidth 8, (x >>> 8).setWidth 8, x.setWidth 8]
/-- a number's bytes, the highest first -/
def beN (v : Nat) : Nat → List (BitVec 8)
  | 0 => []
  | k + 1 => BitVec.ofNat 8 (v / 256 ^ k) :: beN v k
theorem beN_len (v k : Nat) : (beN v k).length = k := by
  induction k with
  | zero => rfl
  | succ k ih => rw [beN, List.length_cons, ih]
/-- how many noughts -/
def padZ (n piece size : Nat) : Nat := (2 * piece - size - 1 - n % piece) % piece
/-- what comes behind a text's rest: the mark, noughts, the count of bits -/
def padded (rest : List (BitVec 8)) (n piece size : Nat) : List (BitVec 8) := rest ++ 128#8 :: (List.replicate (padZ rest.length piece size) 0#8 ++ beN (8 * n) size)
def begin32 : S8 32 := ⟨0x6a09e667, 0xbb67ae85, 0x3c6ef372, 0xa54ff53a, 0x510e527f, 0x9b05688c, 0x1f83d9ab, 0x5be0cd19⟩
def begin64 : S8 64 := ⟨0x6a09e667f3bcc908, 0xbb67ae8584caa73b, 0x3c6ef372fe94f82b, 0xa54ff53a5f1d36f1, 0x510e527fade682d1, 0x9b05688c2b3e6c1f, 0x1f83d9abfb41bd6b, 0x5be0cd19137e2179⟩
def sum32 (t : List (BitVec 8)) : List (BitVec 8) := (sha32.pieces ((padded t t.length 64 8).length / 64) (padded t t.length 64 8) begin32).list.flatMap bytes32
def sum64 (t : List (BitVec 8)) : List (BitVec 8) := (sha64.pieces ((padded t t.length 128 16).length / 128) (padded t t.length 128 16) begin64).list.flatMap bytes64
end Go.Proofs.YtmncihhofppkdaaDoor
