/-
  No cell of these rows narrows 'for every input' (looked for: loops, veiled, ifaces, maps, wideKeys, modest, calm, conditions, laid).
  DERIVED. THE GIVEN ROWS OF THIS SEAT. 9 by the template 'for every input the law returns true; each argument reads behind the call as it read before'; 0 by the template 'total and deterministic' (their statements: YtloglpamnalmeaaTotals.lean).
  GIVEN WITH THE SEED: the statements are not yours to turn. If you find one false, say at which input.
  Laid BY PROGRAM, IN A SANDBOX (cutbox-rows.mjs): the forced cells as the released guide's own fill.sh prints them over the translation 1093e51f091378e1… (all of the seat's roots in one cut). By AI agents, Wed Nov 11 2026. No macro, syntax, notation, axiom, sorry.
-/
import Derived.Test.YtloglpamnalmeaaChecked
import GoSem.Claim
import GoSem.ClaimJoined
import GoSem.ClaimMapViews
import Derived.JoinedTies
import Derived.KernelRfl
namespace Go.Proofs.Ytloglpamnalmeaa
/- THE CELL 'sum', in the pinned program and in every row, IS THE sha256 OF THE DUMP (.gsa) THAT YtloglpamnalmeaaProg.lean LOADS. Nothing in Lean hashes anything: it is a label: what it is worth is what the hold of that sum in a sandbox is worth. -/
noncomputable def Try.pinned : Pinned := { name := "ytloglpamnalmeaa", sum := "1093e51f091378e152547910ac07fd97b4454505f31aefb5dd48a418c7593049", checked := Try.checked }
namespace Rows
def none {H : Type} : Left H := { results := [], args := [] }

/-- 'burrowlaw09.WirePacket': WHATEVER THE INPUT: true; the input reads as it did. -/
def wirePacketSpec : ChangeSpec := { name := "wirePacket", fn := fun _ => fun
  | [d] => { results := [.lit (.bool true)], args := [d] }
  | _ => none }
def wirePacketRow : OpenClaim := { program := "ytloglpamnalmeaa", sum := "1093e51f091378e152547910ac07fd97b4454505f31aefb5dd48a418c7593049", func := "burrow/burrowlaw09.WirePacket", spec := "wirePacket", unfollowed := true, recurses := true, apart := false }
def WirePacketSaid : Prop := wirePacketRow.holds Try.pinned (OpenSpec.ofChange wirePacketSpec)

/-- ITS FALSE NEIGHBOUR: 'it returns false'. Refute it at one input. -/
def wirePacketWrong : ChangeSpec := { name := "wirePacket", fn := fun _ => fun
  | [d] => { results := [.lit (.bool false)], args := [d] }
  | _ => none }
def WirePacketWrongFalsely : Prop := wirePacketRow.holds Try.pinned (OpenSpec.ofChange wirePacketWrong)

/-- 'burrowlaw09.WireWelcome': WHATEVER THE INPUT: true; the input reads as it did. -/
def wireWelcomeSpec : ChangeSpec := { name := "wireWelcome", fn := fun _ => fun
  | [d] => { results := [.lit (.bool true)], args := [d] }
  | _ => none }
def wireWelcomeRow : OpenClaim := { program := "ytloglpamnalmeaa", sum := "1093e51f091378e152547910ac07fd97b4454505f31aefb5dd48a418c7593049", func := "burrow/burrowlaw09.WireWelcome", spec := "wireWelcome", unfollowed := true, recurses := true, apart := false }
def WireWelcomeSaid : Prop := wireWelcomeRow.holds Try.pinned (OpenSpec.ofChange wireWelcomeSpec)

/-- ITS FALSE NEIGHBOUR: 'it returns false'. Refute it at one input. -/
def wireWelcomeWrong : ChangeSpec := { name := "wireWelcome", fn := fun _ => fun
  | [d] => { results := [.lit (.bool false)], args := [d] }
  | _ => none }
def WireWelcomeWrongFalsely : Prop := wireWelcomeRow.holds Try.pinned (OpenSpec.ofChange wireWelcomeWrong)

/-- 'burrowlaw09.WireNodes': WHATEVER THE INPUT: true; the input reads as it did. -/
def wireNodesSpec : ChangeSpec := { name := "wireNodes", fn := fun _ => fun
  | [d] => { results := [.lit (.bool true)], args := [d] }
  | _ => none }
def wireNodesRow : OpenClaim := { program := "ytloglpamnalmeaa", sum := "1093e51f091378e152547910ac07fd97b4454505f31aefb5dd48a418c7593049", func := "burrow/burrowlaw09.WireNodes", spec := "wireNodes", unfollowed := true, recurses := true, apart := false }
def WireNodesSaid : Prop := wireNodesRow.holds Try.pinned (OpenSpec.ofChange wireNodesSpec)

/-- ITS FALSE NEIGHBOUR: 'it returns false'. Refute it at one input. -/
def wireNodesWrong : ChangeSpec := { name := "wireNodes", fn := fun _ => fun
  | [d] => { results := [.lit (.bool false)], args := [d] }
  | _ => none }
def WireNodesWrongFalsely : Prop := wireNodesRow.holds Try.pinned (OpenSpec.ofChange wireNodesWrong)

/-- 'burrowlaw09.WireTree': WHATEVER THE INPUT: true; the input reads as it did. -/
def wireTreeSpec : ChangeSpec := { name := "wireTree", fn := fun _ => fun
  | [d] => { results := [.lit (.bool true)], args := [d] }
  | _ => none }
def wireTreeRow : OpenClaim := { program := "ytloglpamnalmeaa", sum := "1093e51f091378e152547910ac07fd97b4454505f31aefb5dd48a418c7593049", func := "burrow/burrowlaw09.WireTree", spec := "wireTree", unfollowed := true, recurses := true, apart := false }
def WireTreeSaid : Prop := wireTreeRow.holds Try.pinned (OpenSpec.ofChange wireTreeSpec)

/-- ITS FALSE NEIGHBOUR: 'it returns false'. Refute it at one input. -/
def wireTreeWrong : ChangeSpec := { name := "wireTree", fn := fun _ => fun
  | [d] => { results := [.lit (.bool false)], args := [d] }
  | _ => none }
def WireTreeWrongFalsely : Prop := wireTreeRow.holds Try.pinned (OpenSpec.ofChange wireTreeWrong)

/-- 'burrowlaw09.WireInfo': WHATEVER THE INPUT: true; the input reads as it did. -/
def wireInfoSpec : ChangeSpec := { name := "wireInfo", fn := fun _ => fun
  | [d] => { results := [.lit (.bool true)], args := [d] }
  | _ => none }
def wireInfoRow : OpenClaim := { program := "ytloglpamnalmeaa", sum := "1093e51f091378e152547910ac07fd97b4454505f31aefb5dd48a418c7593049", func := "burrow/burrowlaw09.WireInfo", spec := "wireInfo", unfollowed := true, recurses := true, apart := false }
def WireInfoSaid : Prop := wireInfoRow.holds Try.pinned (OpenSpec.ofChange wireInfoSpec)

/-- ITS FALSE NEIGHBOUR: 'it returns false'. Refute it at one input. -/
def wireInfoWrong : ChangeSpec := { name := "wireInfo", fn := fun _ => fun
  | [d] => { results := [.lit (.bool false)], args := [d] }
  | _ => none }
def WireInfoWrongFalsely : Prop := wireInfoRow.holds Try.pinned (OpenSpec.ofChange wireInfoWrong)

/-- 'burrowlaw09.WireProposal': WHATEVER THE INPUT: true; the input reads as it did. -/
def wireProposalSpec : ChangeSpec := { name := "wireProposal", fn := fun _ => fun
  | [d] => { results := [.lit (.bool true)], args := [d] }
  | _ => none }
def wireProposalRow : OpenClaim := { program := "ytloglpamnalmeaa", sum := "1093e51f091378e152547910ac07fd97b4454505f31aefb5dd48a418c7593049", func := "burrow/burrowlaw09.WireProposal", spec := "wireProposal", unfollowed := true, recurses := true, apart := false }
def WireProposalSaid : Prop := wireProposalRow.holds Try.pinned (OpenSpec.ofChange wireProposalSpec)

/-- ITS FALSE NEIGHBOUR: 'it returns false'. Refute it at one input. -/
def wireProposalWrong : ChangeSpec := { name := "wireProposal", fn := fun _ => fun
  | [d] => { results := [.lit (.bool false)], args := [d] }
  | _ => none }
def WireProposalWrongFalsely : Prop := wireProposalRow.holds Try.pinned (OpenSpec.ofChange wireProposalWrong)

/-- 'burrowlaw09.WireCommit': WHATEVER THE INPUT: true; the input reads as it did. -/
def wireCommitSpec : ChangeSpec := { name := "wireCommit", fn := fun _ => fun
  | [d] => { results := [.lit (.bool true)], args := [d] }
  | _ => none }
def wireCommitRow : OpenClaim := { program := "ytloglpamnalmeaa", sum := "1093e51f091378e152547910ac07fd97b4454505f31aefb5dd48a418c7593049", func := "burrow/burrowlaw09.WireCommit", spec := "wireCommit", unfollowed := true, recurses := true, apart := false }
def WireCommitSaid : Prop := wireCommitRow.holds Try.pinned (OpenSpec.ofChange wireCommitSpec)

/-- ITS FALSE NEIGHBOUR: 'it returns false'. Refute it at one input. -/
def wireCommitWrong : ChangeSpec := { name := "wireCommit", fn := fun _ => fun
  | [d] => { results := [.lit (.bool false)], args := [d] }
  | _ => none }
def WireCommitWrongFalsely : Prop := wireCommitRow.holds Try.pinned (OpenSpec.ofChange wireCommitWrong)

/-- 'burrowlaw09.WireShort': WHATEVER THE INPUT: true; the input reads as it did. -/
def wireShortSpec : ChangeSpec := { name := "wireShort", fn := fun _ => fun
  | [d] => { results := [.lit (.bool true)], args := [d] }
  | _ => none }
def wireShortRow : OpenClaim := { program := "ytloglpamnalmeaa", sum := "1093e51f091378e152547910ac07fd97b4454505f31aefb5dd48a418c7593049", func := "burrow/burrowlaw09.WireShort", spec := "wireShort", unfollowed := true, recurses := true, apart := false }
def WireShortSaid : Prop := wireShortRow.holds Try.pinned (OpenSpec.ofChange wireShortSpec)

/-- ITS FALSE NEIGHBOUR: 'it returns false'. Refute it at one input. -/
def wireShortWrong : ChangeSpec := { name := "wireShort", fn := fun _ => fun
  | [d] => { results := [.lit (.bool false)], args := [d] }
  | _ => none }
def WireShortWrongFalsely : Prop := wireShortRow.holds Try.pinned (OpenSpec.ofChange wireShortWrong)

/-- 'burrowlaw09.WireTakes': WHATEVER THE INPUT: true; the input reads as it did. -/
def wireTakesSpec : ChangeSpec := { name := "wireTakes", fn := fun _ => fun
  | [d] => { results := [.lit (.bool true)], args := [d] }
  | _ => none }
def wireTakesRow : OpenClaim := { program := "ytloglpamnalmeaa", sum := "1093e51f091378e152547910ac07fd97b4454505f31aefb5dd48a418c7593049", func := "burrow/burrowlaw09.WireTakes", spec := "wireTakes", unfollowed := true, recurses := true, apart := false }
def WireTakesSaid : Prop := wireTakesRow.holds Try.pinned (OpenSpec.ofChange wireTakesSpec)

/-- ITS FALSE NEIGHBOUR: 'it returns false'. Refute it at one input. -/
def wireTakesWrong : ChangeSpec := { name := "wireTakes", fn := fun _ => fun
  | [d] => { results := [.lit (.bool false)], args := [d] }
  | _ => none }
def WireTakesWrongFalsely : Prop := wireTakesRow.holds Try.pinned (OpenSpec.ofChange wireTakesWrong)

/- THE SECOND FORM. 'bulk': how many values and letters a reading holds, each counted each time it is reached (what is shared counts as often as it is met; a slice's spare places count too). A statement '..UptoSaid' is the law's where the arguments, and the package variables that the reading takes, are together of bulk at most 1048576: NARROWER than '..Said'. Prove '..Said' where nothing that the law and all that it calls make is longer than what came in: it says more and counts as full. Else prove '..UptoSaid'. A law counts once. -/
mutual
def uptoBulk {H : Type} : DataW H → Nat
  | .lit (.string bytes) => bytes.length + 1
  | .lit _ => 1
  | .nil => 1
  | .ptr d => uptoBulk d + 1
  | .slice elems spare => uptoBulkAll elems + uptoBulkAll spare + 1
  | .agg parts => uptoBulkAll parts + 1
  | .iface _ d => uptoBulk d + 1
  | .map entries => uptoBulkEntries entries + 1
  | .held _ => 1
def uptoBulkAll {H : Type} : List (DataW H) → Nat
  | [] => 0
  | d :: r => uptoBulk d + uptoBulkAll r
def uptoBulkEntries {H : Type} : List (Lit × DataW H) → Nat
  | [] => 0
  | x :: r => uptoBulkEntry x + uptoBulkEntries r
def uptoBulkEntry {H : Type} : Lit × DataW H → Nat
  | (.string bytes, d) => bytes.length + uptoBulk d + 1
  | (_, d) => uptoBulk d + 1
 end
def uptoSmall : (H : Type) → List (DataW H) → Bool := fun _ ds => decide (uptoBulkAll ds ≤ 1048576)
def OpenSpec.upto (s : _root_.Go.ChangeSpec) : _root_.Go.OpenSpec := { _root_.Go.OpenSpec.ofChange s with cond := some uptoSmall }

/-- 'burrowlaw09.WirePacket', WHERE WHAT IT READS IS OF BULK AT MOST 1048576: true; the input reads as it did. -/
def wirePacketUptoRow : OpenClaim := { program := "ytloglpamnalmeaa", sum := "1093e51f091378e152547910ac07fd97b4454505f31aefb5dd48a418c7593049", func := "burrow/burrowlaw09.WirePacket", spec := "wirePacket", unfollowed := true, recurses := true, apart := false, narrowed := true }
def WirePacketUptoSaid : Prop := wirePacketUptoRow.holds Try.pinned (OpenSpec.upto wirePacketSpec)

/-- 'burrowlaw09.WireWelcome', WHERE WHAT IT READS IS OF BULK AT MOST 1048576: true; the input reads as it did. -/
def wireWelcomeUptoRow : OpenClaim := { program := "ytloglpamnalmeaa", sum := "1093e51f091378e152547910ac07fd97b4454505f31aefb5dd48a418c7593049", func := "burrow/burrowlaw09.WireWelcome", spec := "wireWelcome", unfollowed := true, recurses := true, apart := false, narrowed := true }
def WireWelcomeUptoSaid : Prop := wireWelcomeUptoRow.holds Try.pinned (OpenSpec.upto wireWelcomeSpec)

/-- 'burrowlaw09.WireNodes', WHERE WHAT IT READS IS OF BULK AT MOST 1048576: true; the input reads as it did. -/
def wireNodesUptoRow : OpenClaim := { program := "ytloglpamnalmeaa", sum := "1093e51f091378e152547910ac07fd97b4454505f31aefb5dd48a418c7593049", func := "burrow/burrowlaw09.WireNodes", spec := "wireNodes", unfollowed := true, recurses := true, apart := false, narrowed := true }
def WireNodesUptoSaid : Prop := wireNodesUptoRow.holds Try.pinned (OpenSpec.upto wireNodesSpec)

/-- 'burrowlaw09.WireTree', WHERE WHAT IT READS IS OF BULK AT MOST 1048576: true; the input reads as it did. -/
def wireTreeUptoRow : OpenClaim := { program := "ytloglpamnalmeaa", sum := "1093e51f091378e152547910ac07fd97b4454505f31aefb5dd48a418c7593049", func := "burrow/burrowlaw09.WireTree", spec := "wireTree", unfollowed := true, recurses := true, apart := false, narrowed := true }
def WireTreeUptoSaid : Prop := wireTreeUptoRow.holds Try.pinned (OpenSpec.upto wireTreeSpec)

/-- 'burrowlaw09.WireInfo', WHERE WHAT IT READS IS OF BULK AT MOST 1048576: true; the input reads as it did. -/
def wireInfoUptoRow : OpenClaim := { program := "ytloglpamnalmeaa", sum := "1093e51f091378e152547910ac07fd97b4454505f31aefb5dd48a418c7593049", func := "burrow/burrowlaw09.WireInfo", spec := "wireInfo", unfollowed := true, recurses := true, apart := false, narrowed := true }
def WireInfoUptoSaid : Prop := wireInfoUptoRow.holds Try.pinned (OpenSpec.upto wireInfoSpec)

/-- 'burrowlaw09.WireProposal', WHERE WHAT IT READS IS OF BULK AT MOST 1048576: true; the input reads as it did. -/
def wireProposalUptoRow : OpenClaim := { program := "ytloglpamnalmeaa", sum := "1093e51f091378e152547910ac07fd97b4454505f31aefb5dd48a418c7593049", func := "burrow/burrowlaw09.WireProposal", spec := "wireProposal", unfollowed := true, recurses := true, apart := false, narrowed := true }
def WireProposalUptoSaid : Prop := wireProposalUptoRow.holds Try.pinned (OpenSpec.upto wireProposalSpec)

/-- 'burrowlaw09.WireCommit', WHERE WHAT IT READS IS OF BULK AT MOST 1048576: true; the input reads as it did. -/
def wireCommitUptoRow : OpenClaim := { program := "ytloglpamnalmeaa", sum := "1093e51f091378e152547910ac07fd97b4454505f31aefb5dd48a418c7593049", func := "burrow/burrowlaw09.WireCommit", spec := "wireCommit", unfollowed := true, recurses := true, apart := false, narrowed := true }
def WireCommitUptoSaid : Prop := wireCommitUptoRow.holds Try.pinned (OpenSpec.upto wireCommitSpec)

/-- 'burrowlaw09.WireShort', WHERE WHAT IT READS IS OF BULK AT MOST 1048576: true; the input reads as it did. -/
def wireShortUptoRow : OpenClaim := { program := "ytloglpamnalmeaa", sum := "1093e51f091378e152547910ac07fd97b4454505f31aefb5dd48a418c7593049", func := "burrow/burrowlaw09.WireShort", spec := "wireShort", unfollowed := true, recurses := true, apart := false, narrowed := true }
def WireShortUptoSaid : Prop := wireShortUptoRow.holds Try.pinned (OpenSpec.upto wireShortSpec)

/-- 'burrowlaw09.WireTakes', WHERE WHAT IT READS IS OF BULK AT MOST 1048576: true; the input reads as it did. -/
def wireTakesUptoRow : OpenClaim := { program := "ytloglpamnalmeaa", sum := "1093e51f091378e152547910ac07fd97b4454505f31aefb5dd48a418c7593049", func := "burrow/burrowlaw09.WireTakes", spec := "wireTakes", unfollowed := true, recurses := true, apart := false, narrowed := true }
def WireTakesUptoSaid : Prop := wireTakesUptoRow.holds Try.pinned (OpenSpec.upto wireTakesSpec)

end Rows
end Go.Proofs.Ytloglpamnalmeaa
