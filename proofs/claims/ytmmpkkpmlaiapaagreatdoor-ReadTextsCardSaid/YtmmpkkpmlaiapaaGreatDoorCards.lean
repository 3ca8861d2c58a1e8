/-
  DERIVED. GIVEN WITH THE SEED: THE CARDS: each row of YtmmpkkpmlaiapaaGreatDoorRows.lean that lists a variable, with what it lists TIED to the program's text (the seventh form; the later family's looks); each row that meets fmt, with fmt's text TOLD by the authors' own Lean function (tested against real Go, not proved from fmt's source: count such statements apart). THE CARD IS WHAT COUNTS. Prove the row's statement (the work); the ties are given (YtmmpkkpmlaiapaaGreatDoorTie.lean); close each card by the builder's one call (the guide's Derived/Test/ToyasCard.lean, 'card_holds'). Laid BY PROGRAM, IN A SANDBOX (cutbox-door.mjs). By AI agents, Wed Nov 11 2026. No macro, syntax, notation, axiom, sorry.
-/
import Derived.Test.YtmmpkkpmlaiapaaGreatDoorRows
import GoSem.ClaimSeven
namespace Go.Proofs.YtmmpkkpmlaiapaaGreatDoor
namespace Rows

/-- THE TIED CARD OF 'merlonlaw23.ReadLines'. -/
def readLinesCard : Claim7 := { stood := { row := readLinesRow, standIns := [], harness := (true, "531a66058dcc5101227f07a2f0a802e38183c129ab73c26d2f15e5a5e6acadc7"), looks := true }, kinds := [], alts := [], laidByText := true, laidKinds := [.data, .data, .data, .data, .sentinel, .sentinel, .listed, .data, .pinned], laidTests := true, laidLooks := .later }
def ReadLinesCardSaid : Prop := Claim7.holds Tryz.pinned (.plain (OpenSpec.ofChange readLinesSpec)) readLinesCard

/-- THE TIED CARD OF 'merlonlaw23.ReadBack'. -/
def readBackCard : Claim7 := { stood := { row := readBackRow, standIns := [], harness := (true, "531a66058dcc5101227f07a2f0a802e38183c129ab73c26d2f15e5a5e6acadc7"), looks := true }, kinds := [], alts := [], laidByText := true, laidKinds := [.data, .data, .data, .data, .sentinel, .sentinel, .listed, .data, .pinned], laidTests := true, laidLooks := .later }
def ReadBackCardSaid : Prop := Claim7.holds Tryz.pinned (.plain (OpenSpec.ofChange readBackSpec)) readBackCard

/-- THE TIED CARD OF 'merlonlaw23.ReadTexts'. -/
def readTextsCard : Claim7 := { stood := { row := readTextsRow, standIns := [], harness := (true, "531a66058dcc5101227f07a2f0a802e38183c129ab73c26d2f15e5a5e6acadc7"), looks := true }, kinds := [], alts := [], laidByText := true, laidKinds := [.data, .data, .data, .data, .sentinel, .sentinel, .listed, .data, .pinned], laidTests := true, laidLooks := .later }
def ReadTextsCardSaid : Prop := Claim7.holds Tryz.pinned (.plain (OpenSpec.ofChange readTextsSpec)) readTextsCard

/-- THE SECOND FORM's CARD OF 'merlonlaw23.ReadLines'. -/
def readLinesUptoCard : Claim7 := { stood := { row := readLinesUptoRow, standIns := [], harness := (true, "531a66058dcc5101227f07a2f0a802e38183c129ab73c26d2f15e5a5e6acadc7"), looks := true }, kinds := [], alts := [], laidByText := true, laidKinds := [.data, .data, .data, .data, .sentinel, .sentinel, .listed, .data, .pinned], laidTests := true, laidLooks := .later }
def ReadLinesUptoCardSaid : Prop := Claim7.holds Tryz.pinned (.plain (OpenSpec.upto readLinesSpec)) readLinesUptoCard

/-- THE SECOND FORM's CARD OF 'merlonlaw23.ReadBack'. -/
def readBackUptoCard : Claim7 := { stood := { row := readBackUptoRow, standIns := [], harness := (true, "531a66058dcc5101227f07a2f0a802e38183c129ab73c26d2f15e5a5e6acadc7"), looks := true }, kinds := [], alts := [], laidByText := true, laidKinds := [.data, .data, .data, .data, .sentinel, .sentinel, .listed, .data, .pinned], laidTests := true, laidLooks := .later }
def ReadBackUptoCardSaid : Prop := Claim7.holds Tryz.pinned (.plain (OpenSpec.upto readBackSpec)) readBackUptoCard

/-- THE SECOND FORM's CARD OF 'merlonlaw23.ReadTexts'. -/
def readTextsUptoCard : Claim7 := { stood := { row := readTextsUptoRow, standIns := [], harness := (true, "531a66058dcc5101227f07a2f0a802e38183c129ab73c26d2f15e5a5e6acadc7"), looks := true }, kinds := [], alts := [], laidByText := true, laidKinds := [.data, .data, .data, .data, .sentinel, .sentinel, .listed, .data, .pinned], laidTests := true, laidLooks := .later }
def ReadTextsUptoCardSaid : Prop := Claim7.holds Tryz.pinned (.plain (OpenSpec.upto readTextsSpec)) readTextsUptoCard
end Rows
end Go.Proofs.YtmmpkkpmlaiapaaGreatDoor
