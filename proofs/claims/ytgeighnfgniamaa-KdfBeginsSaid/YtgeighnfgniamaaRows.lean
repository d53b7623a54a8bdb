/-
  No cell of these rows narrows 'for every input' (looked for: loops, veiled, ifaces, maps, wideKeys, modest, calm, conditions, laid).
  DERIVED. THE GIVEN ROWS OF THIS SEAT. 10 by the template 'for every input the law returns true; each argument reads behind the call as it read before'; 0 by the template 'total and deterministic' (their statements: YtgeighnfgniamaaTotals.lean).
  GIVEN WITH THE SEED: the statements are not yours to turn. If you find one false, say at which input.
  Laid BY PROGRAM, IN A SANDBOX (cutbox-rows.mjs): the forced cells as the released guide's own fill.sh prints them over the translation 3846ba475304e62f… (all of the seat's roots in one cut). By AI agents, Wed Nov 11 2026. No macro, syntax, notation, axiom, sorry.
-/
import Derived.Test.YtgeighnfgniamaaChecked
import GoSem.Claim
import GoSem.ClaimJoined
import GoSem.ClaimMapViews
import Derived.JoinedTies
import Derived.KernelRfl
namespace Go.Proofs.Ytgeighnfgniamaa
/- THE CELL 'sum', in the pinned program and in every row, IS THE sha256 OF THE DUMP (.gsa) THAT YtgeighnfgniamaaProg.lean LOADS. Nothing in Lean hashes anything: it is a label: what it is worth is what the hold of that sum in a sandbox is worth. -/
noncomputable def Try.pinned : Pinned := { name := "ytgeighnfgniamaa", sum := "3846ba475304e62f269d09903606772dbaea0d1983847f02b86d985a992895c9", checked := Try.checked }
namespace Rows
def none {H : Type} : Left H := { results := [], args := [] }

/-- 'burrowlaw02.KdfEqual': WHATEVER THE INPUT: true; the input reads as it did. -/
def kdfEqualSpec : ChangeSpec := { name := "kdfEqual", fn := fun _ => fun
  | [d1, d2] => { results := [.lit (.bool true)], args := [d1, d2] }
  | _ => none }
def kdfEqualRow : OpenClaim := { program := "ytgeighnfgniamaa", sum := "3846ba475304e62f269d09903606772dbaea0d1983847f02b86d985a992895c9", func := "burrow/burrowlaw02.KdfEqual", spec := "kdfEqual", apart := false }
def KdfEqualSaid : Prop := kdfEqualRow.holds Try.pinned (OpenSpec.ofChange kdfEqualSpec)

/-- ITS FALSE NEIGHBOUR: 'it returns false'. Refute it at one input. -/
def kdfEqualWrong : ChangeSpec := { name := "kdfEqual", fn := fun _ => fun
  | [d1, d2] => { results := [.lit (.bool false)], args := [d1, d2] }
  | _ => none }
def KdfEqualWrongFalsely : Prop := kdfEqualRow.holds Try.pinned (OpenSpec.ofChange kdfEqualWrong)

/-- 'burrowlaw02.KdfKeys': WHATEVER THE INPUT: true; the input reads as it did. -/
def kdfKeysSpec : ChangeSpec := { name := "kdfKeys", fn := fun _ => fun
  | [d1, d2] => { results := [.lit (.bool true)], args := [d1, d2] }
  | _ => none }
def kdfKeysRow : OpenClaim := { program := "ytgeighnfgniamaa", sum := "3846ba475304e62f269d09903606772dbaea0d1983847f02b86d985a992895c9", func := "burrow/burrowlaw02.KdfKeys", spec := "kdfKeys", unfollowed := true, recurses := true, apart := false }
def KdfKeysSaid : Prop := kdfKeysRow.holds Try.pinned (OpenSpec.ofChange kdfKeysSpec)

/-- ITS FALSE NEIGHBOUR: 'it returns false'. Refute it at one input. -/
def kdfKeysWrong : ChangeSpec := { name := "kdfKeys", fn := fun _ => fun
  | [d1, d2] => { results := [.lit (.bool false)], args := [d1, d2] }
  | _ => none }
def KdfKeysWrongFalsely : Prop := kdfKeysRow.holds Try.pinned (OpenSpec.ofChange kdfKeysWrong)

/-- 'burrowlaw02.KdfTag': WHATEVER THE INPUT: true; the input reads as it did. -/
def kdfTagSpec : ChangeSpec := { name := "kdfTag", fn := fun _ => fun
  | [d1, d2, d3] => { results := [.lit (.bool true)], args := [d1, d2, d3] }
  | _ => none }
def kdfTagRow : OpenClaim := { program := "ytgeighnfgniamaa", sum := "3846ba475304e62f269d09903606772dbaea0d1983847f02b86d985a992895c9", func := "burrow/burrowlaw02.KdfTag", spec := "kdfTag", unfollowed := true, recurses := true, apart := false }
def KdfTagSaid : Prop := kdfTagRow.holds Try.pinned (OpenSpec.ofChange kdfTagSpec)

/-- ITS FALSE NEIGHBOUR: 'it returns false'. Refute it at one input. -/
def kdfTagWrong : ChangeSpec := { name := "kdfTag", fn := fun _ => fun
  | [d1, d2, d3] => { results := [.lit (.bool false)], args := [d1, d2, d3] }
  | _ => none }
def KdfTagWrongFalsely : Prop := kdfTagRow.holds Try.pinned (OpenSpec.ofChange kdfTagWrong)

/-- 'burrowlaw01.ShaShort': WHATEVER THE INPUT: true; the input reads as it did. -/
def shaShortSpec : ChangeSpec := { name := "shaShort", fn := fun _ => fun
  | [d] => { results := [.lit (.bool true)], args := [d] }
  | _ => none }
def shaShortRow : OpenClaim := { program := "ytgeighnfgniamaa", sum := "3846ba475304e62f269d09903606772dbaea0d1983847f02b86d985a992895c9", func := "burrow/burrowlaw01.ShaShort", spec := "shaShort", unfollowed := true, recurses := true, apart := false }
def ShaShortSaid : Prop := shaShortRow.holds Try.pinned (OpenSpec.ofChange shaShortSpec)

/-- ITS FALSE NEIGHBOUR: 'it returns false'. Refute it at one input. -/
def shaShortWrong : ChangeSpec := { name := "shaShort", fn := fun _ => fun
  | [d] => { results := [.lit (.bool false)], args := [d] }
  | _ => none }
def ShaShortWrongFalsely : Prop := shaShortRow.holds Try.pinned (OpenSpec.ofChange shaShortWrong)

/-- 'burrowlaw01.ShaLong': WHATEVER THE INPUT: true; the input reads as it did. -/
def shaLongSpec : ChangeSpec := { name := "shaLong", fn := fun _ => fun
  | [d] => { results := [.lit (.bool true)], args := [d] }
  | _ => none }
def shaLongRow : OpenClaim := { program := "ytgeighnfgniamaa", sum := "3846ba475304e62f269d09903606772dbaea0d1983847f02b86d985a992895c9", func := "burrow/burrowlaw01.ShaLong", spec := "shaLong", unfollowed := true, recurses := true, apart := false }
def ShaLongSaid : Prop := shaLongRow.holds Try.pinned (OpenSpec.ofChange shaLongSpec)

/-- ITS FALSE NEIGHBOUR: 'it returns false'. Refute it at one input. -/
def shaLongWrong : ChangeSpec := { name := "shaLong", fn := fun _ => fun
  | [d] => { results := [.lit (.bool false)], args := [d] }
  | _ => none }
def ShaLongWrongFalsely : Prop := shaLongRow.holds Try.pinned (OpenSpec.ofChange shaLongWrong)

/-- 'burrowlaw01.ShaParts': WHATEVER THE INPUT: true; the input reads as it did. -/
def shaPartsSpec : ChangeSpec := { name := "shaParts", fn := fun _ => fun
  | [d1, d2, d3] => { results := [.lit (.bool true)], args := [d1, d2, d3] }
  | _ => none }
def shaPartsRow : OpenClaim := { program := "ytgeighnfgniamaa", sum := "3846ba475304e62f269d09903606772dbaea0d1983847f02b86d985a992895c9", func := "burrow/burrowlaw01.ShaParts", spec := "shaParts", unfollowed := true, recurses := true, apart := false }
def ShaPartsSaid : Prop := shaPartsRow.holds Try.pinned (OpenSpec.ofChange shaPartsSpec)

/-- ITS FALSE NEIGHBOUR: 'it returns false'. Refute it at one input. -/
def shaPartsWrong : ChangeSpec := { name := "shaParts", fn := fun _ => fun
  | [d1, d2, d3] => { results := [.lit (.bool false)], args := [d1, d2, d3] }
  | _ => none }
def ShaPartsWrongFalsely : Prop := shaPartsRow.holds Try.pinned (OpenSpec.ofChange shaPartsWrong)

/-- 'burrowlaw02.KdfExpands': WHATEVER THE INPUT: true; the input reads as it did. -/
def kdfExpandsSpec : ChangeSpec := { name := "kdfExpands", fn := fun _ => fun
  | [d1, d2, d3] => { results := [.lit (.bool true)], args := [d1, d2, d3] }
  | _ => none }
def kdfExpandsRow : OpenClaim := { program := "ytgeighnfgniamaa", sum := "3846ba475304e62f269d09903606772dbaea0d1983847f02b86d985a992895c9", func := "burrow/burrowlaw02.KdfExpands", spec := "kdfExpands", unfollowed := true, recurses := true, apart := false }
def KdfExpandsSaid : Prop := kdfExpandsRow.holds Try.pinned (OpenSpec.ofChange kdfExpandsSpec)

/-- ITS FALSE NEIGHBOUR: 'it returns false'. Refute it at one input. -/
def kdfExpandsWrong : ChangeSpec := { name := "kdfExpands", fn := fun _ => fun
  | [d1, d2, d3] => { results := [.lit (.bool false)], args := [d1, d2, d3] }
  | _ => none }
def KdfExpandsWrongFalsely : Prop := kdfExpandsRow.holds Try.pinned (OpenSpec.ofChange kdfExpandsWrong)

/-- 'burrowlaw02.KdfBegins': WHATEVER THE INPUT: true; the input reads as it did. -/
def kdfBeginsSpec : ChangeSpec := { name := "kdfBegins", fn := fun _ => fun
  | [d] => { results := [.lit (.bool true)], args := [d] }
  | _ => none }
def kdfBeginsRow : OpenClaim := { program := "ytgeighnfgniamaa", sum := "3846ba475304e62f269d09903606772dbaea0d1983847f02b86d985a992895c9", func := "burrow/burrowlaw02.KdfBegins", spec := "kdfBegins", unfollowed := true, recurses := true, apart := false }
def KdfBeginsSaid : Prop := kdfBeginsRow.holds Try.pinned (OpenSpec.ofChange kdfBeginsSpec)

/-- ITS FALSE NEIGHBOUR: 'it returns false'. Refute it at one input. -/
def kdfBeginsWrong : ChangeSpec := { name := "kdfBegins", fn := fun _ => fun
  | [d] => { results := [.lit (.bool false)], args := [d] }
  | _ => none }
def KdfBeginsWrongFalsely : Prop := kdfBeginsRow.holds Try.pinned (OpenSpec.ofChange kdfBeginsWrong)

/-- 'burrowlaw01.ShaGoes': WHATEVER THE INPUT: true; the input reads as it did. -/
def shaGoesSpec : ChangeSpec := { name := "shaGoes", fn := fun _ => fun
  | [d] => { results := [.lit (.bool true)], args := [d] }
  | _ => none }
def shaGoesRow : OpenClaim := { program := "ytgeighnfgniamaa", sum := "3846ba475304e62f269d09903606772dbaea0d1983847f02b86d985a992895c9", func := "burrow/burrowlaw01.ShaGoes", spec := "shaGoes", unfollowed := true, recurses := true, apart := false }
def ShaGoesSaid : Prop := shaGoesRow.holds Try.pinned (OpenSpec.ofChange shaGoesSpec)

/-- ITS FALSE NEIGHBOUR: 'it returns false'. Refute it at one input. -/
def shaGoesWrong : ChangeSpec := { name := "shaGoes", fn := fun _ => fun
  | [d] => { results := [.lit (.bool false)], args := [d] }
  | _ => none }
def ShaGoesWrongFalsely : Prop := shaGoesRow.holds Try.pinned (OpenSpec.ofChange shaGoesWrong)

/-- 'burrowlaw01.ShaNone': WHATEVER THE INPUT: true; the input reads as it did. -/
def shaNoneSpec : ChangeSpec := { name := "shaNone", fn := fun _ => fun
  | [d] => { results := [.lit (.bool true)], args := [d] }
  | _ => none }
def shaNoneRow : OpenClaim := { program := "ytgeighnfgniamaa", sum := "3846ba475304e62f269d09903606772dbaea0d1983847f02b86d985a992895c9", func := "burrow/burrowlaw01.ShaNone", spec := "shaNone", unfollowed := true, recurses := true, apart := false }
def ShaNoneSaid : Prop := shaNoneRow.holds Try.pinned (OpenSpec.ofChange shaNoneSpec)

/-- ITS FALSE NEIGHBOUR: 'it returns false'. Refute it at one input. -/
def shaNoneWrong : ChangeSpec := { name := "shaNone", fn := fun _ => fun
  | [d] => { results := [.lit (.bool false)], args := [d] }
  | _ => none }
def ShaNoneWrongFalsely : Prop := shaNoneRow.holds Try.pinned (OpenSpec.ofChange shaNoneWrong)

/- THE SECOND FORM. 'bulk': how many values and letters a reading holds, each counted each time it is reached (what is shared counts as often as it is met; a slice's spare places count too). A statement '..UptoSaid' is the law's where the arguments, and the package variables that the reading takes, are together of bulk at most 1048576: NARROWER than '..Said'. Prove '..Said' where nothing that the law and all that it calls make is longer than what came in: it says more and counts as full. Else prove '..UptoSaid'. A law counts once. -/
mutual
def uptoBulk {H : Type} : DataW H → Nat
  | .lit (.string bytes) => bytes.length + 1
  | .lit _ => 1
  | .nil => 1
  | .ptr d => uptoBulk d + 1
  | .slice elems spare => uptoBulkAll elems + uptoBulkAll spare + 1
  | .agg parts => uptoBulkAll parts + 1
  | .iface _ d => uptoBulk d + 1
  | .map entries => uptoBulkEntries entries + 1
  | .held _ => 1
def uptoBulkAll {H : Type} : List (DataW H) → Nat
  | [] => 0
  | d :: r => uptoBulk d + uptoBulkAll r
def uptoBulkEntries {H : Type} : List (Lit × DataW H) → Nat
  | [] => 0
  | x :: r => uptoBulkEntry x + uptoBulkEntries r
def uptoBulkEntry {H : Type} : Lit × DataW H → Nat
  | (.string bytes, d) => bytes.length + uptoBulk d + 1
  | (_, d) => uptoBulk d + 1
 end
def uptoSmall : (H : Type) → List (DataW H) → Bool := fun _ ds => decide (uptoBulkAll ds ≤ 1048576)
def OpenSpec.upto (s : _root_.Go.ChangeSpec) : _root_.Go.OpenSpec := { _root_.Go.OpenSpec.ofChange s with cond := some uptoSmall }

/-- 'burrowlaw02.KdfEqual', WHERE WHAT IT READS IS OF BULK AT MOST 1048576: true; the input reads as it did. -/
def kdfEqualUptoRow : OpenClaim := { program := "ytgeighnfgniamaa", sum := "3846ba475304e62f269d09903606772dbaea0d1983847f02b86d985a992895c9", func := "burrow/burrowlaw02.KdfEqual", spec := "kdfEqual", apart := false, narrowed := true }
def KdfEqualUptoSaid : Prop := kdfEqualUptoRow.holds Try.pinned (OpenSpec.upto kdfEqualSpec)

/-- 'burrowlaw02.KdfKeys', WHERE WHAT IT READS IS OF BULK AT MOST 1048576: true; the input reads as it did. -/
def kdfKeysUptoRow : OpenClaim := { program := "ytgeighnfgniamaa", sum := "3846ba475304e62f269d09903606772dbaea0d1983847f02b86d985a992895c9", func := "burrow/burrowlaw02.KdfKeys", spec := "kdfKeys", unfollowed := true, recurses := true, apart := false, narrowed := true }
def KdfKeysUptoSaid : Prop := kdfKeysUptoRow.holds Try.pinned (OpenSpec.upto kdfKeysSpec)

/-- 'burrowlaw02.KdfTag', WHERE WHAT IT READS IS OF BULK AT MOST 1048576: true; the input reads as it did. -/
def kdfTagUptoRow : OpenClaim := { program := "ytgeighnfgniamaa", sum := "3846ba475304e62f269d09903606772dbaea0d1983847f02b86d985a992895c9", func := "burrow/burrowlaw02.KdfTag", spec := "kdfTag", unfollowed := true, recurses := true, apart := false, narrowed := true }
def KdfTagUptoSaid : Prop := kdfTagUptoRow.holds Try.pinned (OpenSpec.upto kdfTagSpec)

/-- 'burrowlaw01.ShaShort', WHERE WHAT IT READS IS OF BULK AT MOST 1048576: true; the input reads as it did. -/
def shaShortUptoRow : OpenClaim := { program := "ytgeighnfgniamaa", sum := "3846ba475304e62f269d09903606772dbaea0d1983847f02b86d985a992895c9", func := "burrow/burrowlaw01.ShaShort", spec := "shaShort", unfollowed := true, recurses := true, apart := false, narrowed := true }
def ShaShortUptoSaid : Prop := shaShortUptoRow.holds Try.pinned (OpenSpec.upto shaShortSpec)

/-- 'burrowlaw01.ShaLong', WHERE WHAT IT READS IS OF BULK AT MOST 1048576: true; the input reads as it did. -/
def shaLongUptoRow : OpenClaim := { program := "ytgeighnfgniamaa", sum := "3846ba475304e62f269d09903606772dbaea0d1983847f02b86d985a992895c9", func := "burrow/burrowlaw01.ShaLong", spec := "shaLong", unfollowed := true, recurses := true, apart := false, narrowed := true }
def ShaLongUptoSaid : Prop := shaLongUptoRow.holds Try.pinned (OpenSpec.upto shaLongSpec)

/-- 'burrowlaw01.ShaParts', WHERE WHAT IT READS IS OF BULK AT MOST 1048576: true; the input reads as it did. -/
def shaPartsUptoRow : OpenClaim := { program := "ytgeighnfgniamaa", sum := "3846ba475304e62f269d09903606772dbaea0d1983847f02b86d985a992895c9", func := "burrow/burrowlaw01.ShaParts", spec := "shaParts", unfollowed := true, recurses := true, apart := false, narrowed := true }
def ShaPartsUptoSaid : Prop := shaPartsUptoRow.holds Try.pinned (OpenSpec.upto shaPartsSpec)

/-- 'burrowlaw02.KdfExpands', WHERE WHAT IT READS IS OF BULK AT MOST 1048576: true; the input reads as it did. -/
def kdfExpandsUptoRow : OpenClaim := { program := "ytgeighnfgniamaa", sum := "3846ba475304e62f269d09903606772dbaea0d1983847f02b86d985a992895c9", func := "burrow/burrowlaw02.KdfExpands", spec := "kdfExpands", unfollowed := true, recurses := true, apart := false, narrowed := true }
def KdfExpandsUptoSaid : Prop := kdfExpandsUptoRow.holds Try.pinned (OpenSpec.upto kdfExpandsSpec)

/-- 'burrowlaw02.KdfBegins', WHERE WHAT IT READS IS OF BULK AT MOST 1048576: true; the input reads as it did. -/
def kdfBeginsUptoRow : OpenClaim := { program := "ytgeighnfgniamaa", sum := "3846ba475304e62f269d09903606772dbaea0d1983847f02b86d985a992895c9", func := "burrow/burrowlaw02.KdfBegins", spec := "kdfBegins", unfollowed := true, recurses := true, apart := false, narrowed := true }
def KdfBeginsUptoSaid : Prop := kdfBeginsUptoRow.holds Try.pinned (OpenSpec.upto kdfBeginsSpec)

/-- 'burrowlaw01.ShaGoes', WHERE WHAT IT READS IS OF BULK AT MOST 1048576: true; the input reads as it did. -/
def shaGoesUptoRow : OpenClaim := { program := "ytgeighnfgniamaa", sum := "3846ba475304e62f269d09903606772dbaea0d1983847f02b86d985a992895c9", func := "burrow/burrowlaw01.ShaGoes", spec := "shaGoes", unfollowed := true, recurses := true, apart := false, narrowed := true }
def ShaGoesUptoSaid : Prop := shaGoesUptoRow.holds Try.pinned (OpenSpec.upto shaGoesSpec)

/-- 'burrowlaw01.ShaNone', WHERE WHAT IT READS IS OF BULK AT MOST 1048576: true; the input reads as it did. -/
def shaNoneUptoRow : OpenClaim := { program := "ytgeighnfgniamaa", sum := "3846ba475304e62f269d09903606772dbaea0d1983847f02b86d985a992895c9", func := "burrow/burrowlaw01.ShaNone", spec := "shaNone", unfollowed := true, recurses := true, apart := false, narrowed := true }
def ShaNoneUptoSaid : Prop := shaNoneUptoRow.holds Try.pinned (OpenSpec.upto shaNoneSpec)

end Rows
end Go.Proofs.Ytgeighnfgniamaa
