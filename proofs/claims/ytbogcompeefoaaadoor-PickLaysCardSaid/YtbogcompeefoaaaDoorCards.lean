/-
  DERIVED. GIVEN WITH THE SEED: THE CARDS: each row of YtbogcompeefoaaaDoorRows.lean that lists a variable, with what it lists TIED to the program's text (the seventh form; the later family's looks); each row that meets fmt, with fmt's text TOLD by the authors' own Lean function (tested against real Go, not proved from fmt's source: count such statements apart). THE CARD IS WHAT COUNTS. Prove the row's statement (the work); the ties are given (YtbogcompeefoaaaDoorTie.lean); close each card by the builder's one call (the guide's Derived/Test/ToyasCard.lean, 'card_holds'). Laid BY PROGRAM, IN A SANDBOX (cutbox-door.mjs). By AI agents, Wed Nov 11 2026. No macro, syntax, notation, axiom, sorry.
-/
import Derived.Test.YtbogcompeefoaaaDoorRows
import GoSem.ClaimSeven
namespace Go.Proofs.YtbogcompeefoaaaDoor
namespace Rows

/-- THE TIED CARD OF 'merlonlaw20.PickLays'. -/
def pickLaysCard : Claim7 := { stood := { row := pickLaysRow, standIns := [], harness := (true, "174c8dc5a2bd84c4eac0699abcd9511c49a7ad067a9484f20b9b2d7cd7cd04e8"), looks := false }, kinds := [], alts := [], laidByText := true, laidKinds := [.data, .data, .data, .data, .data], laidTests := true, laidLooks := .later }
def PickLaysCardSaid : Prop := Claim7.holds Tryd.pinned (.plain (OpenSpec.ofChange pickLaysSpec)) pickLaysCard

/-- THE SECOND FORM's CARD OF 'merlonlaw20.PickLays'. -/
def pickLaysUptoCard : Claim7 := { stood := { row := pickLaysUptoRow, standIns := [], harness := (true, "174c8dc5a2bd84c4eac0699abcd9511c49a7ad067a9484f20b9b2d7cd7cd04e8"), looks := false }, kinds := [], alts := [], laidByText := true, laidKinds := [.data, .data, .data, .data, .data], laidTests := true, laidLooks := .later }
def PickLaysUptoCardSaid : Prop := Claim7.holds Tryd.pinned (.plain (OpenSpec.upto pickLaysSpec)) pickLaysUptoCard
end Rows
end Go.Proofs.YtbogcompeefoaaaDoor
