/-
  DERIVED. GIVEN WITH THE SEED: THE CARDS: each row of YtelgjaiknaalkaaGreatDoorRows.lean that lists a variable, with what it lists TIED to the program's text (the seventh form; the later family's looks); each row that meets fmt, with fmt's text TOLD by the authors' own Lean function (tested against real Go, not proved from fmt's source: count such statements apart). THE CARD IS WHAT COUNTS. Prove the row's statement (the work); the ties are given (YtelgjaiknaalkaaGreatDoorTie.lean); close each card by the builder's one call (the guide's Derived/Test/ToyasCard.lean, 'card_holds'). Laid BY PROGRAM, IN A SANDBOX (cutbox-door.mjs). By AI agents, Wed Nov 11 2026. No macro, syntax, notation, axiom, sorry.
-/
import Derived.Test.YtelgjaiknaalkaaGreatDoorRows
import GoSem.ClaimSeven
namespace Go.Proofs.YtelgjaiknaalkaaGreatDoor
namespace Rows

/-- THE TIED CARD OF 'burrowlaw23.PacketMay'. -/
def packetMayCard : Claim7 := { stood := { row := packetMayRow, standIns := [], harness := (true, "baa3f3597302849e6798361aa1fc7498e42f11798b2c66207f21c5ee3eb96208"), looks := true }, kinds := [], alts := [], laidByText := true, laidKinds := [.data, .data], laidTests := true, laidLooks := .later }
def PacketMayCardSaid : Prop := Claim7.holds Tryz.pinned (.plain (OpenSpec.ofChange packetMaySpec)) packetMayCard

/-- THE TIED CARD OF 'burrowlaw23.PacketSpoilt'. -/
def packetSpoiltCard : Claim7 := { stood := { row := packetSpoiltRow, standIns := [], harness := (true, "baa3f3597302849e6798361aa1fc7498e42f11798b2c66207f21c5ee3eb96208"), looks := true }, kinds := [], alts := [], laidByText := true, laidKinds := [.data, .data], laidTests := true, laidLooks := .later }
def PacketSpoiltCardSaid : Prop := Claim7.holds Tryz.pinned (.plain (OpenSpec.ofChange packetSpoiltSpec)) packetSpoiltCard

/-- THE TIED CARD OF 'burrowlaw23.PacketPlays'. -/
def packetPlaysCard : Claim7 := { stood := { row := packetPlaysRow, standIns := [], harness := (true, "baa3f3597302849e6798361aa1fc7498e42f11798b2c66207f21c5ee3eb96208"), looks := true }, kinds := [], alts := [], laidByText := true, laidKinds := [.data, .data], laidTests := true, laidLooks := .later }
def PacketPlaysCardSaid : Prop := Claim7.holds Tryz.pinned (.plain (OpenSpec.ofChange packetPlaysSpec)) packetPlaysCard

/-- THE TIED CARD OF 'burrowlaw23.PacketNone'. -/
def packetNoneCard : Claim7 := { stood := { row := packetNoneRow, standIns := [], harness := (true, "baa3f3597302849e6798361aa1fc7498e42f11798b2c66207f21c5ee3eb96208"), looks := true }, kinds := [], alts := [], laidByText := true, laidKinds := [.data, .data], laidTests := true, laidLooks := .later }
def PacketNoneCardSaid : Prop := Claim7.holds Tryz.pinned (.plain (OpenSpec.ofChange packetNoneSpec)) packetNoneCard

/-- THE SECOND FORM's CARD OF 'burrowlaw23.PacketMay'. -/
def packetMayUptoCard : Claim7 := { stood := { row := packetMayUptoRow, standIns := [], harness := (true, "baa3f3597302849e6798361aa1fc7498e42f11798b2c66207f21c5ee3eb96208"), looks := true }, kinds := [], alts := [], laidByText := true, laidKinds := [.data, .data], laidTests := true, laidLooks := .later }
def PacketMayUptoCardSaid : Prop := Claim7.holds Tryz.pinned (.plain (OpenSpec.upto packetMaySpec)) packetMayUptoCard

/-- THE SECOND FORM's CARD OF 'burrowlaw23.PacketSpoilt'. -/
def packetSpoiltUptoCard : Claim7 := { stood := { row := packetSpoiltUptoRow, standIns := [], harness := (true, "baa3f3597302849e6798361aa1fc7498e42f11798b2c66207f21c5ee3eb96208"), looks := true }, kinds := [], alts := [], laidByText := true, laidKinds := [.data, .data], laidTests := true, laidLooks := .later }
def PacketSpoiltUptoCardSaid : Prop := Claim7.holds Tryz.pinned (.plain (OpenSpec.upto packetSpoiltSpec)) packetSpoiltUptoCard

/-- THE SECOND FORM's CARD OF 'burrowlaw23.PacketPlays'. -/
def packetPlaysUptoCard : Claim7 := { stood := { row := packetPlaysUptoRow, standIns := [], harness := (true, "baa3f3597302849e6798361aa1fc7498e42f11798b2c66207f21c5ee3eb96208"), looks := true }, kinds := [], alts := [], laidByText := true, laidKinds := [.data, .data], laidTests := true, laidLooks := .later }
def PacketPlaysUptoCardSaid : Prop := Claim7.holds Tryz.pinned (.plain (OpenSpec.upto packetPlaysSpec)) packetPlaysUptoCard

/-- THE SECOND FORM's CARD OF 'burrowlaw23.PacketNone'. -/
def packetNoneUptoCard : Claim7 := { stood := { row := packetNoneUptoRow, standIns := [], harness := (true, "baa3f3597302849e6798361aa1fc7498e42f11798b2c66207f21c5ee3eb96208"), looks := true }, kinds := [], alts := [], laidByText := true, laidKinds := [.data, .data], laidTests := true, laidLooks := .later }
def PacketNoneUptoCardSaid : Prop := Claim7.holds Tryz.pinned (.plain (OpenSpec.upto packetNoneSpec)) packetNoneUptoCard
end Rows
end Go.Proofs.YtelgjaiknaalkaaGreatDoor
