/-
  DERIVED. GIVEN WITH THE SEED: THE CARDS: each row of YtinamdcmkamlhaaGreatDoorRows.lean that lists a variable, with what it lists TIED to the program's text (the seventh form; the later family's looks); each row that meets fmt, with fmt's text TOLD by the authors' own Lean function (tested against real Go, not proved from fmt's source: count such statements apart). THE CARD IS WHAT COUNTS. Prove the row's statement (the work); the ties are given (YtinamdcmkamlhaaGreatDoorTie.lean); close each card by the builder's one call (the guide's Derived/Test/ToyasCard.lean, 'card_holds'). Laid BY PROGRAM, IN A SANDBOX (cutbox-door.mjs). By AI agents, Wed Nov 11 2026. No macro, syntax, notation, axiom, sorry.
-/
import Derived.Test.YtinamdcmkamlhaaGreatDoorRows
import GoSem.ClaimSeven
namespace Go.Proofs.YtinamdcmkamlhaaGreatDoor
namespace Rows

/-- THE TIED CARD OF 'merlonlaw25.SpecNone'. -/
def specNoneCard : Claim7 := { stood := { row := specNoneRow, standIns := [], harness := (true, "b077e04f17a476fc7cda39532f785f52ce61813c487ac5af240917cbd83ce24c"), looks := true }, kinds := [], alts := [], laidByText := true, laidKinds := [.data, .data, .data, .data, .sentinel, .sentinel, .listed, .data, .pinned], laidTests := true, laidLooks := .later }
def SpecNoneCardSaid : Prop := Claim7.holds Tryz.pinned (.plain (OpenSpec.ofChange specNoneSpec)) specNoneCard

/-- THE SECOND FORM's CARD OF 'merlonlaw25.SpecNone'. -/
def specNoneUptoCard : Claim7 := { stood := { row := specNoneUptoRow, standIns := [], harness := (true, "b077e04f17a476fc7cda39532f785f52ce61813c487ac5af240917cbd83ce24c"), looks := true }, kinds := [], alts := [], laidByText := true, laidKinds := [.data, .data, .data, .data, .sentinel, .sentinel, .listed, .data, .pinned], laidTests := true, laidLooks := .later }
def SpecNoneUptoCardSaid : Prop := Claim7.holds Tryz.pinned (.plain (OpenSpec.upto specNoneSpec)) specNoneUptoCard
end Rows
end Go.Proofs.YtinamdcmkamlhaaGreatDoor
