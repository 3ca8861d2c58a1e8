/-
  DERIVED. GIVEN WITH THE SEED: THE CARDS: each row of YtdaildpfkchbhaaDoorRows.lean that lists a variable, with what it lists TIED to the program's text (the seventh form; the later family's looks); each row that meets fmt, with fmt's text TOLD by the authors' own Lean function (tested against real Go, not proved from fmt's source: count such statements apart). THE CARD IS WHAT COUNTS. Prove the row's statement (the work); the ties are given (YtdaildpfkchbhaaDoorTie.lean); close each card by the builder's one call (the guide's Derived/Test/ToyasCard.lean, 'card_holds'). Laid BY PROGRAM, IN A SANDBOX (cutbox-door.mjs). By AI agents, Wed Nov 11 2026. No macro, syntax, notation, axiom, sorry.
-/
import Derived.Test.YtdaildpfkchbhaaDoorRows
import GoSem.ClaimSeven
namespace Go.Proofs.YtdaildpfkchbhaaDoor
namespace Rows

/-- THE TIED CARD OF 'merlonlaw11.FlowCopies'. -/
def flowCopiesCard : Claim7 := { stood := { row := flowCopiesRow, standIns := [], harness := (true, "f291afcbdaee3f9a6a1cc8f166df88d40bed7243b96fe4f2788456dd6e12a833"), looks := false }, kinds := [], alts := [], laidByText := true, laidKinds := [.data, .data, .data, .data], laidTests := true, laidLooks := .later }
def FlowCopiesCardSaid : Prop := Claim7.holds Tryd.pinned (.plain (OpenSpec.ofChange flowCopiesSpec)) flowCopiesCard

/-- THE SECOND FORM's CARD OF 'merlonlaw11.FlowCopies'. -/
def flowCopiesUptoCard : Claim7 := { stood := { row := flowCopiesUptoRow, standIns := [], harness := (true, "f291afcbdaee3f9a6a1cc8f166df88d40bed7243b96fe4f2788456dd6e12a833"), looks := false }, kinds := [], alts := [], laidByText := true, laidKinds := [.data, .data, .data, .data], laidTests := true, laidLooks := .later }
def FlowCopiesUptoCardSaid : Prop := Claim7.holds Tryd.pinned (.plain (OpenSpec.upto flowCopiesSpec)) flowCopiesUptoCard
end Rows
end Go.Proofs.YtdaildpfkchbhaaDoor
