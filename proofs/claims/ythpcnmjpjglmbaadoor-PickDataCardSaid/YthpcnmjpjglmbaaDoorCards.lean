/-
  DERIVED. GIVEN WITH THE SEED: THE CARDS: each row of YthpcnmjpjglmbaaDoorRows.lean that lists a variable, with what it lists TIED to the program's text (the seventh form; the later family's looks); each row that meets fmt, with fmt's text TOLD by the authors' own Lean function (tested against real Go, not proved from fmt's source: count such statements apart). THE CARD IS WHAT COUNTS. Prove the row's statement (the work); the ties are given (YthpcnmjpjglmbaaDoorTie.lean); close each card by the builder's one call (the guide's Derived/Test/ToyasCard.lean, 'card_holds'). Laid BY PROGRAM, IN A SANDBOX (cutbox-door.mjs). By AI agents, Wed Nov 11 2026. No macro, syntax, notation, axiom, sorry.
-/
import Derived.Test.YthpcnmjpjglmbaaDoorRows
import GoSem.ClaimSeven
namespace Go.Proofs.YthpcnmjpjglmbaaDoor
namespace Rows

/-- THE TIED CARD OF 'merlonlaw20.PickData'. -/
def pickDataCard : Claim7 := { stood := { row := pickDataRow, standIns := [], harness := (true, "cc65800b2e174b0c6e47ef0fd7abdd4286ae433f48bf2d37a48a17598d13f2ea"), looks := false }, kinds := [], alts := [], laidByText := true, laidKinds := [.data, .data, .data, .data, .data], laidTests := true, laidLooks := .later }
def PickDataCardSaid : Prop := Claim7.holds Tryd.pinned (.plain (OpenSpec.ofChange pickDataSpec)) pickDataCard

/-- THE SECOND FORM's CARD OF 'merlonlaw20.PickData'. -/
def pickDataUptoCard : Claim7 := { stood := { row := pickDataUptoRow, standIns := [], harness := (true, "cc65800b2e174b0c6e47ef0fd7abdd4286ae433f48bf2d37a48a17598d13f2ea"), looks := false }, kinds := [], alts := [], laidByText := true, laidKinds := [.data, .data, .data, .data, .data], laidTests := true, laidLooks := .later }
def PickDataUptoCardSaid : Prop := Claim7.holds Tryd.pinned (.plain (OpenSpec.upto pickDataSpec)) pickDataUptoCard
end Rows
end Go.Proofs.YthpcnmjpjglmbaaDoor
