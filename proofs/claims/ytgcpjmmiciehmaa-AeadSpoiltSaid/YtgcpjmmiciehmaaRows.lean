/-
  No cell of these rows narrows 'for every input' (looked for: loops, veiled, ifaces, maps, wideKeys, modest, calm, conditions, laid).
  DERIVED. THE GIVEN ROWS OF THIS SEAT. 12 by the template 'for every input the law returns true; each argument reads behind the call as it read before'; 0 by the template 'total and deterministic' (their statements: YtgcpjmmiciehmaaTotals.lean).
  GIVEN WITH THE SEED: the statements are not yours to turn. If you find one false, say at which input.
  Laid BY PROGRAM, IN A SANDBOX (cutbox-rows.mjs): the forced cells as the released guide's own fill.sh prints them over the translation facde2f7c76daac9… (all of the seat's roots in one cut). By AI agents, Wed Nov 11 2026. No macro, syntax, notation, axiom, sorry.
-/
import Derived.Test.YtgcpjmmiciehmaaChecked
import GoSem.Claim
import GoSem.ClaimJoined
import GoSem.ClaimMapViews
import Derived.JoinedTies
import Derived.KernelRfl
namespace Go.Proofs.Ytgcpjmmiciehmaa
/- THE CELL 'sum', in the pinned program and in every row, IS THE sha256 OF THE DUMP (.gsa) THAT YtgcpjmmiciehmaaProg.lean LOADS. Nothing in Lean hashes anything: it is a label: what it is worth is what the hold of that sum in a sandbox is worth. -/
noncomputable def Try.pinned : Pinned := { name := "ytgcpjmmiciehmaa", sum := "facde2f7c76daac9fcad6463606f07206e85b8fbf011a7a835c07f33f5da8be7", checked := Try.checked }
namespace Rows
def none {H : Type} : Left H := { results := [], args := [] }

/-- 'burrowlaw04.AeadNonces': WHATEVER THE INPUT: true; the input reads as it did. -/
def aeadNoncesSpec : ChangeSpec := { name := "aeadNonces", fn := fun _ => fun
  | [d] => { results := [.lit (.bool true)], args := [d] }
  | _ => none }
def aeadNoncesRow : OpenClaim := { program := "ytgcpjmmiciehmaa", sum := "facde2f7c76daac9fcad6463606f07206e85b8fbf011a7a835c07f33f5da8be7", func := "burrow/burrowlaw04.AeadNonces", spec := "aeadNonces", apart := false }
def AeadNoncesSaid : Prop := aeadNoncesRow.holds Try.pinned (OpenSpec.ofChange aeadNoncesSpec)

/-- ITS FALSE NEIGHBOUR: 'it returns false'. Refute it at one input. -/
def aeadNoncesWrong : ChangeSpec := { name := "aeadNonces", fn := fun _ => fun
  | [d] => { results := [.lit (.bool false)], args := [d] }
  | _ => none }
def AeadNoncesWrongFalsely : Prop := aeadNoncesRow.holds Try.pinned (OpenSpec.ofChange aeadNoncesWrong)

/-- 'burrowlaw03.ChachaQuarter': WHATEVER THE INPUT: true; the input reads as it did. -/
def chachaQuarterSpec : ChangeSpec := { name := "chachaQuarter", fn := fun _ => fun
  | [d] => { results := [.lit (.bool true)], args := [d] }
  | _ => none }
def chachaQuarterRow : OpenClaim := { program := "ytgcpjmmiciehmaa", sum := "facde2f7c76daac9fcad6463606f07206e85b8fbf011a7a835c07f33f5da8be7", func := "burrow/burrowlaw03.ChachaQuarter", spec := "chachaQuarter", apart := false }
def ChachaQuarterSaid : Prop := chachaQuarterRow.holds Try.pinned (OpenSpec.ofChange chachaQuarterSpec)

/-- ITS FALSE NEIGHBOUR: 'it returns false'. Refute it at one input. -/
def chachaQuarterWrong : ChangeSpec := { name := "chachaQuarter", fn := fun _ => fun
  | [d] => { results := [.lit (.bool false)], args := [d] }
  | _ => none }
def ChachaQuarterWrongFalsely : Prop := chachaQuarterRow.holds Try.pinned (OpenSpec.ofChange chachaQuarterWrong)

/-- 'burrowlaw03.ChachaPieces': WHATEVER THE INPUT: true; the input reads as it did. -/
def chachaPiecesSpec : ChangeSpec := { name := "chachaPieces", fn := fun _ => fun
  | [d1, d2] => { results := [.lit (.bool true)], args := [d1, d2] }
  | _ => none }
def chachaPiecesRow : OpenClaim := { program := "ytgcpjmmiciehmaa", sum := "facde2f7c76daac9fcad6463606f07206e85b8fbf011a7a835c07f33f5da8be7", func := "burrow/burrowlaw03.ChachaPieces", spec := "chachaPieces", unfollowed := true, recurses := true, apart := false }
def ChachaPiecesSaid : Prop := chachaPiecesRow.holds Try.pinned (OpenSpec.ofChange chachaPiecesSpec)

/-- ITS FALSE NEIGHBOUR: 'it returns false'. Refute it at one input. -/
def chachaPiecesWrong : ChangeSpec := { name := "chachaPieces", fn := fun _ => fun
  | [d1, d2] => { results := [.lit (.bool false)], args := [d1, d2] }
  | _ => none }
def ChachaPiecesWrongFalsely : Prop := chachaPiecesRow.holds Try.pinned (OpenSpec.ofChange chachaPiecesWrong)

/-- 'burrowlaw03.ChachaMixes': WHATEVER THE INPUT: true; the input reads as it did. -/
def chachaMixesSpec : ChangeSpec := { name := "chachaMixes", fn := fun _ => fun
  | [d] => { results := [.lit (.bool true)], args := [d] }
  | _ => none }
def chachaMixesRow : OpenClaim := { program := "ytgcpjmmiciehmaa", sum := "facde2f7c76daac9fcad6463606f07206e85b8fbf011a7a835c07f33f5da8be7", func := "burrow/burrowlaw03.ChachaMixes", spec := "chachaMixes", unfollowed := true, recurses := true, apart := false }
def ChachaMixesSaid : Prop := chachaMixesRow.holds Try.pinned (OpenSpec.ofChange chachaMixesSpec)

/-- ITS FALSE NEIGHBOUR: 'it returns false'. Refute it at one input. -/
def chachaMixesWrong : ChangeSpec := { name := "chachaMixes", fn := fun _ => fun
  | [d] => { results := [.lit (.bool false)], args := [d] }
  | _ => none }
def ChachaMixesWrongFalsely : Prop := chachaMixesRow.holds Try.pinned (OpenSpec.ofChange chachaMixesWrong)

/-- 'burrowlaw03.ChachaTwice': WHATEVER THE INPUT: true; the input reads as it did. -/
def chachaTwiceSpec : ChangeSpec := { name := "chachaTwice", fn := fun _ => fun
  | [d1, d2] => { results := [.lit (.bool true)], args := [d1, d2] }
  | _ => none }
def chachaTwiceRow : OpenClaim := { program := "ytgcpjmmiciehmaa", sum := "facde2f7c76daac9fcad6463606f07206e85b8fbf011a7a835c07f33f5da8be7", func := "burrow/burrowlaw03.ChachaTwice", spec := "chachaTwice", unfollowed := true, recurses := true, apart := false }
def ChachaTwiceSaid : Prop := chachaTwiceRow.holds Try.pinned (OpenSpec.ofChange chachaTwiceSpec)

/-- ITS FALSE NEIGHBOUR: 'it returns false'. Refute it at one input. -/
def chachaTwiceWrong : ChangeSpec := { name := "chachaTwice", fn := fun _ => fun
  | [d1, d2] => { results := [.lit (.bool false)], args := [d1, d2] }
  | _ => none }
def ChachaTwiceWrongFalsely : Prop := chachaTwiceRow.holds Try.pinned (OpenSpec.ofChange chachaTwiceWrong)

/-- 'burrowlaw03.ChachaJoins': WHATEVER THE INPUT: true; the input reads as it did. -/
def chachaJoinsSpec : ChangeSpec := { name := "chachaJoins", fn := fun _ => fun
  | [d1, d2] => { results := [.lit (.bool true)], args := [d1, d2] }
  | _ => none }
def chachaJoinsRow : OpenClaim := { program := "ytgcpjmmiciehmaa", sum := "facde2f7c76daac9fcad6463606f07206e85b8fbf011a7a835c07f33f5da8be7", func := "burrow/burrowlaw03.ChachaJoins", spec := "chachaJoins", unfollowed := true, recurses := true, apart := false }
def ChachaJoinsSaid : Prop := chachaJoinsRow.holds Try.pinned (OpenSpec.ofChange chachaJoinsSpec)

/-- ITS FALSE NEIGHBOUR: 'it returns false'. Refute it at one input. -/
def chachaJoinsWrong : ChangeSpec := { name := "chachaJoins", fn := fun _ => fun
  | [d1, d2] => { results := [.lit (.bool false)], args := [d1, d2] }
  | _ => none }
def ChachaJoinsWrongFalsely : Prop := chachaJoinsRow.holds Try.pinned (OpenSpec.ofChange chachaJoinsWrong)

/-- 'burrowlaw04.AeadMarks': WHATEVER THE INPUT: true; the input reads as it did. -/
def aeadMarksSpec : ChangeSpec := { name := "aeadMarks", fn := fun _ => fun
  | [d1, d2, d3] => { results := [.lit (.bool true)], args := [d1, d2, d3] }
  | _ => none }
def aeadMarksRow : OpenClaim := { program := "ytgcpjmmiciehmaa", sum := "facde2f7c76daac9fcad6463606f07206e85b8fbf011a7a835c07f33f5da8be7", func := "burrow/burrowlaw04.AeadMarks", spec := "aeadMarks", inPlace := ["math/bits.Add64"], unfollowed := true, recurses := true, apart := false }
def AeadMarksSaid : Prop := aeadMarksRow.holds Try.pinned (OpenSpec.ofChange aeadMarksSpec)

/-- ITS FALSE NEIGHBOUR: 'it returns false'. Refute it at one input. -/
def aeadMarksWrong : ChangeSpec := { name := "aeadMarks", fn := fun _ => fun
  | [d1, d2, d3] => { results := [.lit (.bool false)], args := [d1, d2, d3] }
  | _ => none }
def AeadMarksWrongFalsely : Prop := aeadMarksRow.holds Try.pinned (OpenSpec.ofChange aeadMarksWrong)

/-- 'burrowlaw04.AeadSeals': WHATEVER THE INPUT: true; the input reads as it did. -/
def aeadSealsSpec : ChangeSpec := { name := "aeadSeals", fn := fun _ => fun
  | [d] => { results := [.lit (.bool true)], args := [d] }
  | _ => none }
def aeadSealsRow : OpenClaim := { program := "ytgcpjmmiciehmaa", sum := "facde2f7c76daac9fcad6463606f07206e85b8fbf011a7a835c07f33f5da8be7", func := "burrow/burrowlaw04.AeadSeals", spec := "aeadSeals", inPlace := ["math/bits.Add64"], unfollowed := true, recurses := true, apart := false }
def AeadSealsSaid : Prop := aeadSealsRow.holds Try.pinned (OpenSpec.ofChange aeadSealsSpec)

/-- ITS FALSE NEIGHBOUR: 'it returns false'. Refute it at one input. -/
def aeadSealsWrong : ChangeSpec := { name := "aeadSeals", fn := fun _ => fun
  | [d] => { results := [.lit (.bool false)], args := [d] }
  | _ => none }
def AeadSealsWrongFalsely : Prop := aeadSealsRow.holds Try.pinned (OpenSpec.ofChange aeadSealsWrong)

/-- 'burrowlaw04.AeadOpens': WHATEVER THE INPUT: true; the input reads as it did. -/
def aeadOpensSpec : ChangeSpec := { name := "aeadOpens", fn := fun _ => fun
  | [d] => { results := [.lit (.bool true)], args := [d] }
  | _ => none }
def aeadOpensRow : OpenClaim := { program := "ytgcpjmmiciehmaa", sum := "facde2f7c76daac9fcad6463606f07206e85b8fbf011a7a835c07f33f5da8be7", func := "burrow/burrowlaw04.AeadOpens", spec := "aeadOpens", inPlace := ["math/bits.Add64"], unfollowed := true, recurses := true, apart := false }
def AeadOpensSaid : Prop := aeadOpensRow.holds Try.pinned (OpenSpec.ofChange aeadOpensSpec)

/-- ITS FALSE NEIGHBOUR: 'it returns false'. Refute it at one input. -/
def aeadOpensWrong : ChangeSpec := { name := "aeadOpens", fn := fun _ => fun
  | [d] => { results := [.lit (.bool false)], args := [d] }
  | _ => none }
def AeadOpensWrongFalsely : Prop := aeadOpensRow.holds Try.pinned (OpenSpec.ofChange aeadOpensWrong)

/-- 'burrowlaw04.AeadBack': WHATEVER THE INPUT: true; the input reads as it did. -/
def aeadBackSpec : ChangeSpec := { name := "aeadBack", fn := fun _ => fun
  | [d] => { results := [.lit (.bool true)], args := [d] }
  | _ => none }
def aeadBackRow : OpenClaim := { program := "ytgcpjmmiciehmaa", sum := "facde2f7c76daac9fcad6463606f07206e85b8fbf011a7a835c07f33f5da8be7", func := "burrow/burrowlaw04.AeadBack", spec := "aeadBack", inPlace := ["math/bits.Add64"], unfollowed := true, recurses := true, apart := false }
def AeadBackSaid : Prop := aeadBackRow.holds Try.pinned (OpenSpec.ofChange aeadBackSpec)

/-- ITS FALSE NEIGHBOUR: 'it returns false'. Refute it at one input. -/
def aeadBackWrong : ChangeSpec := { name := "aeadBack", fn := fun _ => fun
  | [d] => { results := [.lit (.bool false)], args := [d] }
  | _ => none }
def AeadBackWrongFalsely : Prop := aeadBackRow.holds Try.pinned (OpenSpec.ofChange aeadBackWrong)

/-- 'burrowlaw04.AeadSpoilt': WHATEVER THE INPUT: true; the input reads as it did. -/
def aeadSpoiltSpec : ChangeSpec := { name := "aeadSpoilt", fn := fun _ => fun
  | [d1, d2, d3] => { results := [.lit (.bool true)], args := [d1, d2, d3] }
  | _ => none }
def aeadSpoiltRow : OpenClaim := { program := "ytgcpjmmiciehmaa", sum := "facde2f7c76daac9fcad6463606f07206e85b8fbf011a7a835c07f33f5da8be7", func := "burrow/burrowlaw04.AeadSpoilt", spec := "aeadSpoilt", inPlace := ["math/bits.Add64"], unfollowed := true, recurses := true, apart := false }
def AeadSpoiltSaid : Prop := aeadSpoiltRow.holds Try.pinned (OpenSpec.ofChange aeadSpoiltSpec)

/-- ITS FALSE NEIGHBOUR: 'it returns false'. Refute it at one input. -/
def aeadSpoiltWrong : ChangeSpec := { name := "aeadSpoilt", fn := fun _ => fun
  | [d1, d2, d3] => { results := [.lit (.bool false)], args := [d1, d2, d3] }
  | _ => none }
def AeadSpoiltWrongFalsely : Prop := aeadSpoiltRow.holds Try.pinned (OpenSpec.ofChange aeadSpoiltWrong)

/-- 'burrowlaw04.AeadCuts': WHATEVER THE INPUT: true; the input reads as it did. -/
def aeadCutsSpec : ChangeSpec := { name := "aeadCuts", fn := fun _ => fun
  | [d1, d2] => { results := [.lit (.bool true)], args := [d1, d2] }
  | _ => none }
def aeadCutsRow : OpenClaim := { program := "ytgcpjmmiciehmaa", sum := "facde2f7c76daac9fcad6463606f07206e85b8fbf011a7a835c07f33f5da8be7", func := "burrow/burrowlaw04.AeadCuts", spec := "aeadCuts", inPlace := ["math/bits.Add64"], unfollowed := true, recurses := true, apart := false }
def AeadCutsSaid : Prop := aeadCutsRow.holds Try.pinned (OpenSpec.ofChange aeadCutsSpec)

/-- ITS FALSE NEIGHBOUR: 'it returns false'. Refute it at one input. -/
def aeadCutsWrong : ChangeSpec := { name := "aeadCuts", fn := fun _ => fun
  | [d1, d2] => { results := [.lit (.bool false)], args := [d1, d2] }
  | _ => none }
def AeadCutsWrongFalsely : Prop := aeadCutsRow.holds Try.pinned (OpenSpec.ofChange aeadCutsWrong)

/- THE SECOND FORM. 'bulk': how many values and letters a reading holds, each counted each time it is reached (what is shared counts as often as it is met; a slice's spare places count too). A statement '..UptoSaid' is the law's where the arguments, and the package variables that the reading takes, are together of bulk at most 1048576: NARROWER than '..Said'. Prove '..Said' where nothing that the law and all that it calls make is longer than what came in: it says more and counts as full. Else prove '..UptoSaid'. A law counts once. -/
mutual
def uptoBulk {H : Type} : DataW H → Nat
  | .lit (.string bytes) => bytes.length + 1
  | .lit _ => 1
  | .nil => 1
  | .ptr d => uptoBulk d + 1
  | .slice elems spare => uptoBulkAll elems + uptoBulkAll spare + 1
  | .agg parts => uptoBulkAll parts + 1
  | .iface _ d => uptoBulk d + 1
  | .map entries => uptoBulkEntries entries + 1
  | .held _ => 1
def uptoBulkAll {H : Type} : List (DataW H) → Nat
  | [] => 0
  | d :: r => uptoBulk d + uptoBulkAll r
def uptoBulkEntries {H : Type} : List (Lit × DataW H) → Nat
  | [] => 0
  | x :: r => uptoBulkEntry x + uptoBulkEntries r
def uptoBulkEntry {H : Type} : Lit × DataW H → Nat
  | (.string bytes, d) => bytes.length + uptoBulk d + 1
  | (_, d) => uptoBulk d + 1
 end
def uptoSmall : (H : Type) → List (DataW H) → Bool := fun _ ds => decide (uptoBulkAll ds ≤ 1048576)
def OpenSpec.upto (s : _root_.Go.ChangeSpec) : _root_.Go.OpenSpec := { _root_.Go.OpenSpec.ofChange s with cond := some uptoSmall }

/-- 'burrowlaw04.AeadNonces', WHERE WHAT IT READS IS OF BULK AT MOST 1048576: true; the input reads as it did. -/
def aeadNoncesUptoRow : OpenClaim := { program := "ytgcpjmmiciehmaa", sum := "facde2f7c76daac9fcad6463606f07206e85b8fbf011a7a835c07f33f5da8be7", func := "burrow/burrowlaw04.AeadNonces", spec := "aeadNonces", apart := false, narrowed := true }
def AeadNoncesUptoSaid : Prop := aeadNoncesUptoRow.holds Try.pinned (OpenSpec.upto aeadNoncesSpec)

/-- 'burrowlaw03.ChachaQuarter', WHERE WHAT IT READS IS OF BULK AT MOST 1048576: true; the input reads as it did. -/
def chachaQuarterUptoRow : OpenClaim := { program := "ytgcpjmmiciehmaa", sum := "facde2f7c76daac9fcad6463606f07206e85b8fbf011a7a835c07f33f5da8be7", func := "burrow/burrowlaw03.ChachaQuarter", spec := "chachaQuarter", apart := false, narrowed := true }
def ChachaQuarterUptoSaid : Prop := chachaQuarterUptoRow.holds Try.pinned (OpenSpec.upto chachaQuarterSpec)

/-- 'burrowlaw03.ChachaPieces', WHERE WHAT IT READS IS OF BULK AT MOST 1048576: true; the input reads as it did. -/
def chachaPiecesUptoRow : OpenClaim := { program := "ytgcpjmmiciehmaa", sum := "facde2f7c76daac9fcad6463606f07206e85b8fbf011a7a835c07f33f5da8be7", func := "burrow/burrowlaw03.ChachaPieces", spec := "chachaPieces", unfollowed := true, recurses := true, apart := false, narrowed := true }
def ChachaPiecesUptoSaid : Prop := chachaPiecesUptoRow.holds Try.pinned (OpenSpec.upto chachaPiecesSpec)

/-- 'burrowlaw03.ChachaMixes', WHERE WHAT IT READS IS OF BULK AT MOST 1048576: true; the input reads as it did. -/
def chachaMixesUptoRow : OpenClaim := { program := "ytgcpjmmiciehmaa", sum := "facde2f7c76daac9fcad6463606f07206e85b8fbf011a7a835c07f33f5da8be7", func := "burrow/burrowlaw03.ChachaMixes", spec := "chachaMixes", unfollowed := true, recurses := true, apart := false, narrowed := true }
def ChachaMixesUptoSaid : Prop := chachaMixesUptoRow.holds Try.pinned (OpenSpec.upto chachaMixesSpec)

/-- 'burrowlaw03.ChachaTwice', WHERE WHAT IT READS IS OF BULK AT MOST 1048576: true; the input reads as it did. -/
def chachaTwiceUptoRow : OpenClaim := { program := "ytgcpjmmiciehmaa", sum := "facde2f7c76daac9fcad6463606f07206e85b8fbf011a7a835c07f33f5da8be7", func := "burrow/burrowlaw03.ChachaTwice", spec := "chachaTwice", unfollowed := true, recurses := true, apart := false, narrowed := true }
def ChachaTwiceUptoSaid : Prop := chachaTwiceUptoRow.holds Try.pinned (OpenSpec.upto chachaTwiceSpec)

/-- 'burrowlaw03.ChachaJoins', WHERE WHAT IT READS IS OF BULK AT MOST 1048576: true; the input reads as it did. -/
def chachaJoinsUptoRow : OpenClaim := { program := "ytgcpjmmiciehmaa", sum := "facde2f7c76daac9fcad6463606f07206e85b8fbf011a7a835c07f33f5da8be7", func := "burrow/burrowlaw03.ChachaJoins", spec := "chachaJoins", unfollowed := true, recurses := true, apart := false, narrowed := true }
def ChachaJoinsUptoSaid : Prop := chachaJoinsUptoRow.holds Try.pinned (OpenSpec.upto chachaJoinsSpec)

/-- 'burrowlaw04.AeadMarks', WHERE WHAT IT READS IS OF BULK AT MOST 1048576: true; the input reads as it did. -/
def aeadMarksUptoRow : OpenClaim := { program := "ytgcpjmmiciehmaa", sum := "facde2f7c76daac9fcad6463606f07206e85b8fbf011a7a835c07f33f5da8be7", func := "burrow/burrowlaw04.AeadMarks", spec := "aeadMarks", inPlace := ["math/bits.Add64"], unfollowed := true, recurses := true, apart := false, narrowed := true }
def AeadMarksUptoSaid : Prop := aeadMarksUptoRow.holds Try.pinned (OpenSpec.upto aeadMarksSpec)

/-- 'burrowlaw04.AeadSeals', WHERE WHAT IT READS IS OF BULK AT MOST 1048576: true; the input reads as it did. -/
def aeadSealsUptoRow : OpenClaim := { program := "ytgcpjmmiciehmaa", sum := "facde2f7c76daac9fcad6463606f07206e85b8fbf011a7a835c07f33f5da8be7", func := "burrow/burrowlaw04.AeadSeals", spec := "aeadSeals", inPlace := ["math/bits.Add64"], unfollowed := true, recurses := true, apart := false, narrowed := true }
def AeadSealsUptoSaid : Prop := aeadSealsUptoRow.holds Try.pinned (OpenSpec.upto aeadSealsSpec)

/-- 'burrowlaw04.AeadOpens', WHERE WHAT IT READS IS OF BULK AT MOST 1048576: true; the input reads as it did. -/
def aeadOpensUptoRow : OpenClaim := { program := "ytgcpjmmiciehmaa", sum := "facde2f7c76daac9fcad6463606f07206e85b8fbf011a7a835c07f33f5da8be7", func := "burrow/burrowlaw04.AeadOpens", spec := "aeadOpens", inPlace := ["math/bits.Add64"], unfollowed := true, recurses := true, apart := false, narrowed := true }
def AeadOpensUptoSaid : Prop := aeadOpensUptoRow.holds Try.pinned (OpenSpec.upto aeadOpensSpec)

/-- 'burrowlaw04.AeadBack', WHERE WHAT IT READS IS OF BULK AT MOST 1048576: true; the input reads as it did. -/
def aeadBackUptoRow : OpenClaim := { program := "ytgcpjmmiciehmaa", sum := "facde2f7c76daac9fcad6463606f07206e85b8fbf011a7a835c07f33f5da8be7", func := "burrow/burrowlaw04.AeadBack", spec := "aeadBack", inPlace := ["math/bits.Add64"], unfollowed := true, recurses := true, apart := false, narrowed := true }
def AeadBackUptoSaid : Prop := aeadBackUptoRow.holds Try.pinned (OpenSpec.upto aeadBackSpec)

/-- 'burrowlaw04.AeadSpoilt', WHERE WHAT IT READS IS OF BULK AT MOST 1048576: true; the input reads as it did. -/
def aeadSpoiltUptoRow : OpenClaim := { program := "ytgcpjmmiciehmaa", sum := "facde2f7c76daac9fcad6463606f07206e85b8fbf011a7a835c07f33f5da8be7", func := "burrow/burrowlaw04.AeadSpoilt", spec := "aeadSpoilt", inPlace := ["math/bits.Add64"], unfollowed := true, recurses := true, apart := false, narrowed := true }
def AeadSpoiltUptoSaid : Prop := aeadSpoiltUptoRow.holds Try.pinned (OpenSpec.upto aeadSpoiltSpec)

/-- 'burrowlaw04.AeadCuts', WHERE WHAT IT READS IS OF BULK AT MOST 1048576: true; the input reads as it did. -/
def aeadCutsUptoRow : OpenClaim := { program := "ytgcpjmmiciehmaa", sum := "facde2f7c76daac9fcad6463606f07206e85b8fbf011a7a835c07f33f5da8be7", func := "burrow/burrowlaw04.AeadCuts", spec := "aeadCuts", inPlace := ["math/bits.Add64"], unfollowed := true, recurses := true, apart := false, narrowed := true }
def AeadCutsUptoSaid : Prop := aeadCutsUptoRow.holds Try.pinned (OpenSpec.upto aeadCutsSpec)

end Rows
end Go.Proofs.Ytgcpjmmiciehmaa
