/-
  DERIVED. GIVEN WITH THE SEED: THE CARDS: each row of YtelgjaiknaalkaaDoorRows.lean that lists a variable, with what it lists TIED to the program's text (the seventh form; the later family's looks); each row that meets fmt, with fmt's text TOLD by the authors' own Lean function (tested against real Go, not proved from fmt's source: count such statements apart). THE CARD IS WHAT COUNTS. Prove the row's statement (the work); the ties are given (YtelgjaiknaalkaaDoorTie.lean); close each card by the builder's one call (the guide's Derived/Test/ToyasCard.lean, 'card_holds'). Laid BY PROGRAM, IN A SANDBOX (cutbox-door.mjs). By AI agents, Wed Nov 11 2026. No macro, syntax, notation, axiom, sorry.
-/
import Derived.Test.YtelgjaiknaalkaaDoorRows
import GoSem.ClaimSeven
namespace Go.Proofs.YtelgjaiknaalkaaDoor
namespace Rows

/-- THE TIED CARD OF 'burrowlaw23.PacketOnce'. -/
def packetOnceCard : Claim7 := { stood := { row := packetOnceRow, standIns := [], harness := (true, "b6fe75b61617c012f9138326a144ad082270cdc6a4ca9652db9ac47f74c20b62"), looks := true }, kinds := [], alts := [], laidByText := true, laidKinds := [.data, .data], laidTests := true, laidLooks := .later }
def PacketOnceCardSaid : Prop := Claim7.holds Tryd.pinned (.plain (OpenSpec.ofChange packetOnceSpec)) packetOnceCard

/-- THE SECOND FORM's CARD OF 'burrowlaw23.PacketOnce'. -/
def packetOnceUptoCard : Claim7 := { stood := { row := packetOnceUptoRow, standIns := [], harness := (true, "b6fe75b61617c012f9138326a144ad082270cdc6a4ca9652db9ac47f74c20b62"), looks := true }, kinds := [], alts := [], laidByText := true, laidKinds := [.data, .data], laidTests := true, laidLooks := .later }
def PacketOnceUptoCardSaid : Prop := Claim7.holds Tryd.pinned (.plain (OpenSpec.upto packetOnceSpec)) packetOnceUptoCard
end Rows
end Go.Proofs.YtelgjaiknaalkaaDoor
