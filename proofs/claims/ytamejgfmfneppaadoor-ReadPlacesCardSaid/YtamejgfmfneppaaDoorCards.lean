/-
  DERIVED. GIVEN WITH THE SEED: THE CARDS: each row of YtamejgfmfneppaaDoorRows.lean that lists a variable, with what it lists TIED to the program's text (the seventh form; the later family's looks); each row that meets fmt, with fmt's text TOLD by the authors' own Lean function (tested against real Go, not proved from fmt's source: count such statements apart). THE CARD IS WHAT COUNTS. Prove the row's statement (the work); the ties are given (YtamejgfmfneppaaDoorTie.lean); close each card by the builder's one call (the guide's Derived/Test/ToyasCard.lean, 'card_holds'). Laid BY PROGRAM, IN A SANDBOX (cutbox-door.mjs). By AI agents, Wed Nov 11 2026. No macro, syntax, notation, axiom, sorry.
-/
import Derived.Test.YtamejgfmfneppaaDoorRows
import GoSem.ClaimSeven
namespace Go.Proofs.YtamejgfmfneppaaDoor
namespace Rows

/-- THE TIED CARD OF 'merlonlaw23.ReadPlaces'. -/
def readPlacesCard : Claim7 := { stood := { row := readPlacesRow, standIns := [], harness := (true, "5af32ab5cf516b71f18b531de4409d6de5404ec8c3c163730404914fd76c6b25"), looks := true }, kinds := [], alts := [], laidByText := true, laidKinds := [.data, .data, .data, .data, .sentinel, .sentinel, .listed, .data, .pinned], laidTests := true, laidLooks := .later }
def ReadPlacesCardSaid : Prop := Claim7.holds Tryd.pinned (.plain (OpenSpec.ofChange readPlacesSpec)) readPlacesCard

/-- THE SECOND FORM's CARD OF 'merlonlaw23.ReadPlaces'. -/
def readPlacesUptoCard : Claim7 := { stood := { row := readPlacesUptoRow, standIns := [], harness := (true, "5af32ab5cf516b71f18b531de4409d6de5404ec8c3c163730404914fd76c6b25"), looks := true }, kinds := [], alts := [], laidByText := true, laidKinds := [.data, .data, .data, .data, .sentinel, .sentinel, .listed, .data, .pinned], laidTests := true, laidLooks := .later }
def ReadPlacesUptoCardSaid : Prop := Claim7.holds Tryd.pinned (.plain (OpenSpec.upto readPlacesSpec)) readPlacesUptoCard
end Rows
end Go.Proofs.YtamejgfmfneppaaDoor
