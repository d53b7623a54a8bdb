/-
  DERIVED. GIVEN WITH THE SEED: THE CARDS: each row of YtmncihhofppkdaaDoorRows.lean that lists a variable, with what it lists TIED to the program's text (the seventh form; the later family's looks); each row that meets fmt, with fmt's text TOLD by the authors' own Lean function (tested against real Go, not proved from fmt's source: count such statements apart). THE CARD IS WHAT COUNTS. Prove the row's statement (the work); the ties are given (YtmncihhofppkdaaDoorTie.lean); close each card by the builder's one call (the guide's Derived/Test/ToyasCard.lean, 'card_holds'). Laid BY PROGRAM, IN A SANDBOX (cutbox-door.mjs). By AI agents, Wed Nov 11 2026. No macro, syntax, notation, axiom, sorry.
-/
import Derived.Test.YtmncihhofppkdaaDoorRows
import GoSem.ClaimSeven
namespace Go.Proofs.YtmncihhofppkdaaDoor
namespace Rows

/-- THE TIED CARD OF 'burrowlaw19.ChainLinks'. -/
def chainLinksCard : Claim7 := { stood := { row := chainLinksRow, standIns := [], harness := (true, "cd09d3b252e4cd5b7c5e73547aac197e7197db4e88b218bad3305fbb54323765"), looks := true }, kinds := [], alts := [], laidByText := true, laidKinds := [.data, .data], laidTests := true, laidLooks := .later }
def ChainLinksCardSaid : Prop := Claim7.holds Tryd.pinned (.plain (OpenSpec.ofChange chainLinksSpec)) chainLinksCard

/-- THE TIED CARD OF 'burrowlaw19.ChainErases'. -/
def chainErasesCard : Claim7 := { stood := { row := chainErasesRow, standIns := [], harness := (true, "cd09d3b252e4cd5b7c5e73547aac197e7197db4e88b218bad3305fbb54323765"), looks := true }, kinds := [], alts := [], laidByText := true, laidKinds := [.data, .data], laidTests := true, laidLooks := .later }
def ChainErasesCardSaid : Prop := Claim7.holds Tryd.pinned (.plain (OpenSpec.ofChange chainErasesSpec)) chainErasesCard

/-- THE TIED CARD OF 'burrowlaw19.ChainOnce'. -/
def chainOnceCard : Claim7 := { stood := { row := chainOnceRow, standIns := [], harness := (true, "cd09d3b252e4cd5b7c5e73547aac197e7197db4e88b218bad3305fbb54323765"), looks := true }, kinds := [], alts := [], laidByText := true, laidKinds := [.data, .data], laidTests := true, laidLooks := .later }
def ChainOnceCardSaid : Prop := Claim7.holds Tryd.pinned (.plain (OpenSpec.ofChange chainOnceSpec)) chainOnceCard

/-- THE TIED CARD OF 'burrowlaw19.ChainPlays'. -/
def chainPlaysCard : Claim7 := { stood := { row := chainPlaysRow, standIns := [], harness := (true, "cd09d3b252e4cd5b7c5e73547aac197e7197db4e88b218bad3305fbb54323765"), looks := true }, kinds := [], alts := [], laidByText := true, laidKinds := [.data, .data], laidTests := true, laidLooks := .later }
def ChainPlaysCardSaid : Prop := Claim7.holds Tryd.pinned (.plain (OpenSpec.ofChange chainPlaysSpec)) chainPlaysCard

/-- THE TIED CARD OF 'burrowlaw19.ChainNone'. -/
def chainNoneCard : Claim7 := { stood := { row := chainNoneRow, standIns := [], harness := (true, "cd09d3b252e4cd5b7c5e73547aac197e7197db4e88b218bad3305fbb54323765"), looks := true }, kinds := [], alts := [], laidByText := true, laidKinds := [.data, .data], laidTests := true, laidLooks := .later }
def ChainNoneCardSaid : Prop := Claim7.holds Tryd.pinned (.plain (OpenSpec.ofChange chainNoneSpec)) chainNoneCard

/-- THE SECOND FORM's CARD OF 'burrowlaw19.ChainLinks'. -/
def chainLinksUptoCard : Claim7 := { stood := { row := chainLinksUptoRow, standIns := [], harness := (true, "cd09d3b252e4cd5b7c5e73547aac197e7197db4e88b218bad3305fbb54323765"), looks := true }, kinds := [], alts := [], laidByText := true, laidKinds := [.data, .data], laidTests := true, laidLooks := .later }
def ChainLinksUptoCardSaid : Prop := Claim7.holds Tryd.pinned (.plain (OpenSpec.upto chainLinksSpec)) chainLinksUptoCard

/-- THE SECOND FORM's CARD OF 'burrowlaw19.ChainErases'. -/
def chainErasesUptoCard : Claim7 := { stood := { row := chainErasesUptoRow, standIns := [], harness := (true, "cd09d3b252e4cd5b7c5e73547aac197e7197db4e88b218bad3305fbb54323765"), looks := true }, kinds := [], alts := [], laidByText := true, laidKinds := [.data, .data], laidTests := true, laidLooks := .later }
def ChainErasesUptoCardSaid : Prop := Claim7.holds Tryd.pinned (.plain (OpenSpec.upto chainErasesSpec)) chainErasesUptoCard

/-- THE SECOND FORM's CARD OF 'burrowlaw19.ChainOnce'. -/
def chainOnceUptoCard : Claim7 := { stood := { row := chainOnceUptoRow, standIns := [], harness := (true, "cd09d3b252e4cd5b7c5e73547aac197e7197db4e88b218bad3305fbb54323765"), looks := true }, kinds := [], alts := [], laidByText := true, laidKinds := [.data, .data], laidTests := true, laidLooks := .later }
def ChainOnceUptoCardSaid : Prop := Claim7.holds Tryd.pinned (.plain (OpenSpec.upto chainOnceSpec)) chainOnceUptoCard

/-- THE SECOND FORM's CARD OF 'burrowlaw19.ChainPlays'. -/
def chainPlaysUptoCard : Claim7 := { stood := { row := chainPlaysUptoRow, standIns := [], harness := (true, "cd09d3b252e4cd5b7c5e73547aac197e7197db4e88b218bad3305fbb54323765"), looks := true }, kinds := [], alts := [], laidByText := true, laidKinds := [.data, .data], laidTests := true, laidLooks := .later }
def ChainPlaysUptoCardSaid : Prop := Claim7.holds Tryd.pinned (.plain (OpenSpec.upto chainPlaysSpec)) chainPlaysUptoCard

/-- THE SECOND FORM's CARD OF 'burrowlaw19.ChainNone'. -/
def chainNoneUptoCard : Claim7 := { stood := { row := chainNoneUptoRow, standIns := [], harness := (true, "cd09d3b252e4cd5b7c5e73547aac197e7197db4e88b218bad3305fbb54323765"), looks := true }, kinds := [], alts := [], laidByText := true, laidKinds := [.data, .data], laidTests := true, laidLooks := .later }
def ChainNoneUptoCardSaid : Prop := Claim7.holds Tryd.pinned (.plain (OpenSpec.upto chainNoneSpec)) chainNoneUptoCard
end Rows
end Go.Proofs.YtmncihhofppkdaaDoor
