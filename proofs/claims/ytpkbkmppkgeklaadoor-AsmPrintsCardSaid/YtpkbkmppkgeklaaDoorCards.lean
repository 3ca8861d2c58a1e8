/-
  DERIVED. GIVEN WITH THE SEED: THE CARDS: each row of YtpkbkmppkgeklaaDoorRows.lean that lists a variable, with what it lists TIED to the program's text (the seventh form; the later family's looks); each row that meets fmt, with fmt's text TOLD by the authors' own Lean function (tested against real Go, not proved from fmt's source: count such statements apart). THE CARD IS WHAT COUNTS. Prove the row's statement (the work); the ties are given (YtpkbkmppkgeklaaDoorTie.lean); close each card by the builder's one call (the guide's Derived/Test/ToyasCard.lean, 'card_holds'). Laid BY PROGRAM, IN A SANDBOX (cutbox-door.mjs). By AI agents, Wed Nov 11 2026. No macro, syntax, notation, axiom, sorry.
-/
import Derived.Test.YtpkbkmppkgeklaaDoorRows
import GoSem.ClaimSeven
namespace Go.Proofs.YtpkbkmppkgeklaaDoor
namespace Rows

/-- THE TIED CARD OF 'merlonlaw22.AsmShows'. -/
def asmShowsCard : Claim7 := { stood := { row := asmShowsRow, standIns := [], harness := (true, "41b94d2a8961359b3d32c7affa7c38de2c381ff62f769dc992373f96f8002c0d"), looks := false }, kinds := [], alts := [], laidByText := true, laidKinds := [.data, .data, .data, .listed, .data], laidTests := true, laidLooks := .later }
def AsmShowsCardSaid : Prop := Claim7.holds Tryd.pinned (.plain (OpenSpec.ofChange asmShowsSpec)) asmShowsCard

/-- THE TIED CARD OF 'merlonlaw22.AsmUnlike'. -/
def asmUnlikeCard : Claim7 := { stood := { row := asmUnlikeRow, standIns := [], harness := (true, "41b94d2a8961359b3d32c7affa7c38de2c381ff62f769dc992373f96f8002c0d"), looks := false }, kinds := [], alts := [], laidByText := true, laidKinds := [.data, .data, .data, .listed, .data], laidTests := true, laidLooks := .later }
def AsmUnlikeCardSaid : Prop := Claim7.holds Tryd.pinned (.plain (OpenSpec.ofChange asmUnlikeSpec)) asmUnlikeCard

/-- THE TIED CARD OF 'merlonlaw22.AsmNames'. -/
def asmNamesCard : Claim7 := { stood := { row := asmNamesRow, standIns := [], harness := (true, "41b94d2a8961359b3d32c7affa7c38de2c381ff62f769dc992373f96f8002c0d"), looks := false }, kinds := [], alts := [], laidByText := true, laidKinds := [.data, .data, .data, .listed, .data], laidTests := true, laidLooks := .later }
def AsmNamesCardSaid : Prop := Claim7.holds Tryd.pinned (.plain (OpenSpec.ofChange asmNamesSpec)) asmNamesCard

/-- THE TIED CARD OF 'merlonlaw22.AsmRegs'. -/
def asmRegsCard : Claim7 := { stood := { row := asmRegsRow, standIns := [], harness := (true, "41b94d2a8961359b3d32c7affa7c38de2c381ff62f769dc992373f96f8002c0d"), looks := false }, kinds := [], alts := [], laidByText := true, laidKinds := [.data, .data, .data, .listed, .data], laidTests := true, laidLooks := .later }
def AsmRegsCardSaid : Prop := Claim7.holds Tryd.pinned (.plain (OpenSpec.ofChange asmRegsSpec)) asmRegsCard

/-- THE TIED CARD OF 'merlonlaw22.AsmPrints'. -/
def asmPrintsCard : Claim7 := { stood := { row := asmPrintsRow, standIns := [], harness := (true, "41b94d2a8961359b3d32c7affa7c38de2c381ff62f769dc992373f96f8002c0d"), looks := false }, kinds := [], alts := [], laidByText := true, laidKinds := [.data, .data, .data, .listed, .data], laidTests := true, laidLooks := .later }
def AsmPrintsCardSaid : Prop := Claim7.holds Tryd.pinned (.plain (OpenSpec.ofChange asmPrintsSpec)) asmPrintsCard

/-- THE SECOND FORM's CARD OF 'merlonlaw22.AsmShows'. -/
def asmShowsUptoCard : Claim7 := { stood := { row := asmShowsUptoRow, standIns := [], harness := (true, "41b94d2a8961359b3d32c7affa7c38de2c381ff62f769dc992373f96f8002c0d"), looks := false }, kinds := [], alts := [], laidByText := true, laidKinds := [.data, .data, .data, .listed, .data], laidTests := true, laidLooks := .later }
def AsmShowsUptoCardSaid : Prop := Claim7.holds Tryd.pinned (.plain (OpenSpec.upto asmShowsSpec)) asmShowsUptoCard

/-- THE SECOND FORM's CARD OF 'merlonlaw22.AsmUnlike'. -/
def asmUnlikeUptoCard : Claim7 := { stood := { row := asmUnlikeUptoRow, standIns := [], harness := (true, "41b94d2a8961359b3d32c7affa7c38de2c381ff62f769dc992373f96f8002c0d"), looks := false }, kinds := [], alts := [], laidByText := true, laidKinds := [.data, .data, .data, .listed, .data], laidTests := true, laidLooks := .later }
def AsmUnlikeUptoCardSaid : Prop := Claim7.holds Tryd.pinned (.plain (OpenSpec.upto asmUnlikeSpec)) asmUnlikeUptoCard

/-- THE SECOND FORM's CARD OF 'merlonlaw22.AsmNames'. -/
def asmNamesUptoCard : Claim7 := { stood := { row := asmNamesUptoRow, standIns := [], harness := (true, "41b94d2a8961359b3d32c7affa7c38de2c381ff62f769dc992373f96f8002c0d"), looks := false }, kinds := [], alts := [], laidByText := true, laidKinds := [.data, .data, .data, .listed, .data], laidTests := true, laidLooks := .later }
def AsmNamesUptoCardSaid : Prop := Claim7.holds Tryd.pinned (.plain (OpenSpec.upto asmNamesSpec)) asmNamesUptoCard

/-- THE SECOND FORM's CARD OF 'merlonlaw22.AsmRegs'. -/
def asmRegsUptoCard : Claim7 := { stood := { row := asmRegsUptoRow, standIns := [], harness := (true, "41b94d2a8961359b3d32c7affa7c38de2c381ff62f769dc992373f96f8002c0d"), looks := false }, kinds := [], alts := [], laidByText := true, laidKinds := [.data, .data, .data, .listed, .data], laidTests := true, laidLooks := .later }
def AsmRegsUptoCardSaid : Prop := Claim7.holds Tryd.pinned (.plain (OpenSpec.upto asmRegsSpec)) asmRegsUptoCard

/-- THE SECOND FORM's CARD OF 'merlonlaw22.AsmPrints'. -/
def asmPrintsUptoCard : Claim7 := { stood := { row := asmPrintsUptoRow, standIns := [], harness := (true, "41b94d2a8961359b3d32c7affa7c38de2c381ff62f769dc992373f96f8002c0d"), looks := false }, kinds := [], alts := [], laidByText := true, laidKinds := [.data, .data, .data, .listed, .data], laidTests := true, laidLooks := .later }
def AsmPrintsUptoCardSaid : Prop := Claim7.holds Tryd.pinned (.plain (OpenSpec.upto asmPrintsSpec)) asmPrintsUptoCard
end Rows
end Go.Proofs.YtpkbkmppkgeklaaDoor
