/-
  DERIVED. GIVEN WITH THE SEED: THE CARDS: each row of YtlkgklplcbmimaaDoorRows.lean that lists a variable, with what it lists TIED to the program's text (the seventh form; the later family's looks); each row that meets fmt, with fmt's text TOLD by the authors' own Lean function (tested against real Go, not proved from fmt's source: count such statements apart). THE CARD IS WHAT COUNTS. Prove the row's statement (the work); the ties are given (YtlkgklplcbmimaaDoorTie.lean); close each card by the builder's one call (the guide's Derived/Test/ToyasCard.lean, 'card_holds'). Laid BY PROGRAM, IN A SANDBOX (cutbox-door.mjs). By AI agents, Wed Nov 11 2026. No macro, syntax, notation, axiom, sorry.
-/
import Derived.Test.YtlkgklplcbmimaaDoorRows
import GoSem.ClaimSeven
namespace Go.Proofs.YtlkgklplcbmimaaDoor
namespace Rows

/-- THE TIED CARD OF 'burrowlaw13.SeatPaths'. -/
def seatPathsCard : Claim7 := { stood := { row := seatPathsRow, standIns := [], harness := (true, "6a0f21acdf2f3fe41d4d0600055ba106053de29549b72c0a3933842f53a8e204"), looks := false }, kinds := [], alts := [], laidByText := true, laidKinds := [.data, .data], laidTests := true, laidLooks := .later }
def SeatPathsCardSaid : Prop := Claim7.holds Tryd.pinned (.plain (OpenSpec.ofChange seatPathsSpec)) seatPathsCard

/-- THE TIED CARD OF 'burrowlaw13.SeatNodes'. -/
def seatNodesCard : Claim7 := { stood := { row := seatNodesRow, standIns := [], harness := (true, "6a0f21acdf2f3fe41d4d0600055ba106053de29549b72c0a3933842f53a8e204"), looks := false }, kinds := [], alts := [], laidByText := true, laidKinds := [.data, .data], laidTests := true, laidLooks := .later }
def SeatNodesCardSaid : Prop := Claim7.holds Tryd.pinned (.plain (OpenSpec.ofChange seatNodesSpec)) seatNodesCard

/-- THE TIED CARD OF 'burrowlaw13.SeatTree'. -/
def seatTreeCard : Claim7 := { stood := { row := seatTreeRow, standIns := [], harness := (true, "6a0f21acdf2f3fe41d4d0600055ba106053de29549b72c0a3933842f53a8e204"), looks := false }, kinds := [], alts := [], laidByText := true, laidKinds := [.data, .data], laidTests := true, laidLooks := .later }
def SeatTreeCardSaid : Prop := Claim7.holds Tryd.pinned (.plain (OpenSpec.ofChange seatTreeSpec)) seatTreeCard

/-- THE TIED CARD OF 'burrowlaw13.SeatCommon'. -/
def seatCommonCard : Claim7 := { stood := { row := seatCommonRow, standIns := [], harness := (true, "6a0f21acdf2f3fe41d4d0600055ba106053de29549b72c0a3933842f53a8e204"), looks := false }, kinds := [], alts := [], laidByText := true, laidKinds := [.data, .data], laidTests := true, laidLooks := .later }
def SeatCommonCardSaid : Prop := Claim7.holds Tryd.pinned (.plain (OpenSpec.ofChange seatCommonSpec)) seatCommonCard

/-- THE TIED CARD OF 'burrowlaw13.SeatMeets'. -/
def seatMeetsCard : Claim7 := { stood := { row := seatMeetsRow, standIns := [], harness := (true, "6a0f21acdf2f3fe41d4d0600055ba106053de29549b72c0a3933842f53a8e204"), looks := false }, kinds := [], alts := [], laidByText := true, laidKinds := [.data, .data], laidTests := true, laidLooks := .later }
def SeatMeetsCardSaid : Prop := Claim7.holds Tryd.pinned (.plain (OpenSpec.ofChange seatMeetsSpec)) seatMeetsCard

/-- THE SECOND FORM's CARD OF 'burrowlaw13.SeatPaths'. -/
def seatPathsUptoCard : Claim7 := { stood := { row := seatPathsUptoRow, standIns := [], harness := (true, "6a0f21acdf2f3fe41d4d0600055ba106053de29549b72c0a3933842f53a8e204"), looks := false }, kinds := [], alts := [], laidByText := true, laidKinds := [.data, .data], laidTests := true, laidLooks := .later }
def SeatPathsUptoCardSaid : Prop := Claim7.holds Tryd.pinned (.plain (OpenSpec.upto seatPathsSpec)) seatPathsUptoCard

/-- THE SECOND FORM's CARD OF 'burrowlaw13.SeatNodes'. -/
def seatNodesUptoCard : Claim7 := { stood := { row := seatNodesUptoRow, standIns := [], harness := (true, "6a0f21acdf2f3fe41d4d0600055ba106053de29549b72c0a3933842f53a8e204"), looks := false }, kinds := [], alts := [], laidByText := true, laidKinds := [.data, .data], laidTests := true, laidLooks := .later }
def SeatNodesUptoCardSaid : Prop := Claim7.holds Tryd.pinned (.plain (OpenSpec.upto seatNodesSpec)) seatNodesUptoCard

/-- THE SECOND FORM's CARD OF 'burrowlaw13.SeatTree'. -/
def seatTreeUptoCard : Claim7 := { stood := { row := seatTreeUptoRow, standIns := [], harness := (true, "6a0f21acdf2f3fe41d4d0600055ba106053de29549b72c0a3933842f53a8e204"), looks := false }, kinds := [], alts := [], laidByText := true, laidKinds := [.data, .data], laidTests := true, laidLooks := .later }
def SeatTreeUptoCardSaid : Prop := Claim7.holds Tryd.pinned (.plain (OpenSpec.upto seatTreeSpec)) seatTreeUptoCard

/-- THE SECOND FORM's CARD OF 'burrowlaw13.SeatCommon'. -/
def seatCommonUptoCard : Claim7 := { stood := { row := seatCommonUptoRow, standIns := [], harness := (true, "6a0f21acdf2f3fe41d4d0600055ba106053de29549b72c0a3933842f53a8e204"), looks := false }, kinds := [], alts := [], laidByText := true, laidKinds := [.data, .data], laidTests := true, laidLooks := .later }
def SeatCommonUptoCardSaid : Prop := Claim7.holds Tryd.pinned (.plain (OpenSpec.upto seatCommonSpec)) seatCommonUptoCard

/-- THE SECOND FORM's CARD OF 'burrowlaw13.SeatMeets'. -/
def seatMeetsUptoCard : Claim7 := { stood := { row := seatMeetsUptoRow, standIns := [], harness := (true, "6a0f21acdf2f3fe41d4d0600055ba106053de29549b72c0a3933842f53a8e204"), looks := false }, kinds := [], alts := [], laidByText := true, laidKinds := [.data, .data], laidTests := true, laidLooks := .later }
def SeatMeetsUptoCardSaid : Prop := Claim7.holds Tryd.pinned (.plain (OpenSpec.upto seatMeetsSpec)) seatMeetsUptoCard
end Rows
end Go.Proofs.YtlkgklplcbmimaaDoor
