/-
  DERIVED. GIVEN WITH THE SEED: THE CARDS: each row of YtekjnpoakacpkaaDoorRows.lean that lists a variable, with what it lists TIED to the program's text (the seventh form; the later family's looks); each row that meets fmt, with fmt's text TOLD by the authors' own Lean function (tested against real Go, not proved from fmt's source: count such statements apart). THE CARD IS WHAT COUNTS. Prove the row's statement (the work); the ties are given (YtekjnpoakacpkaaDoorTie.lean); close each card by the builder's one call (the guide's Derived/Test/ToyasCard.lean, 'card_holds'). Laid BY PROGRAM, IN A SANDBOX (cutbox-door.mjs). By AI agents, Wed Nov 11 2026. No macro, syntax, notation, axiom, sorry.
-/
import Derived.Test.YtekjnpoakacpkaaDoorRows
import GoSem.ClaimSeven
namespace Go.Proofs.YtekjnpoakacpkaaDoor
namespace Rows

/-- THE TIED CARD OF 'merlonlaw23.ReadRegs'. -/
def readRegsCard : Claim7 := { stood := { row := readRegsRow, standIns := [], harness := (true, "bc22d8657b4581b6a138bab0a505852c3590b47fb9a70d4efa917103091e7b0d"), looks := true }, kinds := [], alts := [], laidByText := true, laidKinds := [.data, .data, .data, .data, .sentinel, .sentinel, .listed, .data, .pinned], laidTests := true, laidLooks := .later }
def ReadRegsCardSaid : Prop := Claim7.holds Tryd.pinned (.plain (OpenSpec.ofChange readRegsSpec)) readRegsCard

/-- THE SECOND FORM's CARD OF 'merlonlaw23.ReadRegs'. -/
def readRegsUptoCard : Claim7 := { stood := { row := readRegsUptoRow, standIns := [], harness := (true, "bc22d8657b4581b6a138bab0a505852c3590b47fb9a70d4efa917103091e7b0d"), looks := true }, kinds := [], alts := [], laidByText := true, laidKinds := [.data, .data, .data, .data, .sentinel, .sentinel, .listed, .data, .pinned], laidTests := true, laidLooks := .later }
def ReadRegsUptoCardSaid : Prop := Claim7.holds Tryd.pinned (.plain (OpenSpec.upto readRegsSpec)) readRegsUptoCard
end Rows
end Go.Proofs.YtekjnpoakacpkaaDoor
