/-
  No cell of these rows narrows 'for every input' (looked for: loops, veiled, ifaces, maps, wideKeys, modest, calm, conditions, laid).
  DERIVED. THE GIVEN ROWS OF THIS SEAT. 3 by the template 'for every input the law returns true; each argument reads behind the call as it read before'; 0 by the template 'total and deterministic' (their statements: YtednnkhomfabaaaTotals.lean).
  GIVEN WITH THE SEED: the statements are not yours to turn. If you find one false, say at which input.
  Laid BY PROGRAM, IN A SANDBOX (cutbox-rows.mjs): the forced cells as the released guide's own fill.sh prints them over the translation d6c5e5eda462a5b5… (all of the seat's roots in one cut). By AI agents, Wed Nov 11 2026. No macro, syntax, notation, axiom, sorry.
-/
import Derived.Test.YtednnkhomfabaaaChecked
import GoSem.Claim
import GoSem.ClaimJoined
import GoSem.ClaimMapViews
import Derived.JoinedTies
import Derived.KernelRfl
namespace Go.Proofs.Ytednnkhomfabaaa
/- THE CELL 'sum', in the pinned program and in every row, IS THE sha256 OF THE DUMP (.gsa) THAT YtednnkhomfabaaaProg.lean LOADS. Nothing in Lean hashes anything: it is a label: what it is worth is what the hold of that sum in a sandbox is worth. -/
noncomputable def Try.pinned : Pinned := { name := "ytednnkhomfabaaa", sum := "d6c5e5eda462a5b5bb0b11f378ad087a193dc44bdc05c5db4d1edc1ab42ea138", checked := Try.checked }
namespace Rows
def none {H : Type} : Left H := { results := [], args := [] }

/-- 'merlonlaw16.GraphApart': WHATEVER THE INPUT: true; the input reads as it did. -/
def graphApartSpec : ChangeSpec := { name := "graphApart", fn := fun _ => fun
  | [d] => { results := [.lit (.bool true)], args := [d] }
  | _ => none }
def graphApartRow : OpenClaim := { program := "ytednnkhomfabaaa", sum := "d6c5e5eda462a5b5bb0b11f378ad087a193dc44bdc05c5db4d1edc1ab42ea138", func := "merlon/merlonlaw16.GraphApart", spec := "graphApart", apart := false }
def GraphApartSaid : Prop := graphApartRow.holds Try.pinned (OpenSpec.ofChange graphApartSpec)

/-- ITS FALSE NEIGHBOUR: 'it returns false'. Refute it at one input. -/
def graphApartWrong : ChangeSpec := { name := "graphApart", fn := fun _ => fun
  | [d] => { results := [.lit (.bool false)], args := [d] }
  | _ => none }
def GraphApartWrongFalsely : Prop := graphApartRow.holds Try.pinned (OpenSpec.ofChange graphApartWrong)

/-- 'merlonlaw16.GraphColours': WHATEVER THE INPUT: true; the input reads as it did. -/
def graphColoursSpec : ChangeSpec := { name := "graphColours", fn := fun _ => fun
  | [d1, d2] => { results := [.lit (.bool true)], args := [d1, d2] }
  | _ => none }
def graphColoursRow : OpenClaim := { program := "ytednnkhomfabaaa", sum := "d6c5e5eda462a5b5bb0b11f378ad087a193dc44bdc05c5db4d1edc1ab42ea138", func := "merlon/merlonlaw16.GraphColours", spec := "graphColours", apart := false }
def GraphColoursSaid : Prop := graphColoursRow.holds Try.pinned (OpenSpec.ofChange graphColoursSpec)

/-- ITS FALSE NEIGHBOUR: 'it returns false'. Refute it at one input. -/
def graphColoursWrong : ChangeSpec := { name := "graphColours", fn := fun _ => fun
  | [d1, d2] => { results := [.lit (.bool false)], args := [d1, d2] }
  | _ => none }
def GraphColoursWrongFalsely : Prop := graphColoursRow.holds Try.pinned (OpenSpec.ofChange graphColoursWrong)

/-- 'merlonlaw16.GraphUses': WHATEVER THE INPUT: true; the input reads as it did. -/
def graphUsesSpec : ChangeSpec := { name := "graphUses", fn := fun _ => fun
  | [d] => { results := [.lit (.bool true)], args := [d] }
  | _ => none }
def graphUsesRow : OpenClaim := { program := "ytednnkhomfabaaa", sum := "d6c5e5eda462a5b5bb0b11f378ad087a193dc44bdc05c5db4d1edc1ab42ea138", func := "merlon/merlonlaw16.GraphUses", spec := "graphUses", apart := false }
def GraphUsesSaid : Prop := graphUsesRow.holds Try.pinned (OpenSpec.ofChange graphUsesSpec)

/-- ITS FALSE NEIGHBOUR: 'it returns false'. Refute it at one input. -/
def graphUsesWrong : ChangeSpec := { name := "graphUses", fn := fun _ => fun
  | [d] => { results := [.lit (.bool false)], args := [d] }
  | _ => none }
def GraphUsesWrongFalsely : Prop := graphUsesRow.holds Try.pinned (OpenSpec.ofChange graphUsesWrong)

/- THE SECOND FORM. 'bulk': how many values and letters a reading holds, each counted each time it is reached (what is shared counts as often as it is met; a slice's spare places count too). A statement '..UptoSaid' is the law's where the arguments, and the package variables that the reading takes, are together of bulk at most 1048576: NARROWER than '..Said'. Prove '..Said' where nothing that the law and all that it calls make is longer than what came in: it says more and counts as full. Else prove '..UptoSaid'. A law counts once. -/
mutual
def uptoBulk {H : Type} : DataW H → Nat
  | .lit (.string bytes) => bytes.length + 1
  | .lit _ => 1
  | .nil => 1
  | .ptr d => uptoBulk d + 1
  | .slice elems spare => uptoBulkAll elems + uptoBulkAll spare + 1
  | .agg parts => uptoBulkAll parts + 1
  | .iface _ d => uptoBulk d + 1
  | .map entries => uptoBulkEntries entries + 1
  | .held _ => 1
def uptoBulkAll {H : Type} : List (DataW H) → Nat
  | [] => 0
  | d :: r => uptoBulk d + uptoBulkAll r
def uptoBulkEntries {H : Type} : List (Lit × DataW H) → Nat
  | [] => 0
  | x :: r => uptoBulkEntry x + uptoBulkEntries r
def uptoBulkEntry {H : Type} : Lit × DataW H → Nat
  | (.string bytes, d) => bytes.length + uptoBulk d + 1
  | (_, d) => uptoBulk d + 1
 end
def uptoSmall : (H : Type) → List (DataW H) → Bool := fun _ ds => decide (uptoBulkAll ds ≤ 1048576)
def OpenSpec.upto (s : _root_.Go.ChangeSpec) : _root_.Go.OpenSpec := { _root_.Go.OpenSpec.ofChange s with cond := some uptoSmall }

/-- 'merlonlaw16.GraphApart', WHERE WHAT IT READS IS OF BULK AT MOST 1048576: true; the input reads as it did. -/
def graphApartUptoRow : OpenClaim := { program := "ytednnkhomfabaaa", sum := "d6c5e5eda462a5b5bb0b11f378ad087a193dc44bdc05c5db4d1edc1ab42ea138", func := "merlon/merlonlaw16.GraphApart", spec := "graphApart", apart := false, narrowed := true }
def GraphApartUptoSaid : Prop := graphApartUptoRow.holds Try.pinned (OpenSpec.upto graphApartSpec)

/-- 'merlonlaw16.GraphColours', WHERE WHAT IT READS IS OF BULK AT MOST 1048576: true; the input reads as it did. -/
def graphColoursUptoRow : OpenClaim := { program := "ytednnkhomfabaaa", sum := "d6c5e5eda462a5b5bb0b11f378ad087a193dc44bdc05c5db4d1edc1ab42ea138", func := "merlon/merlonlaw16.GraphColours", spec := "graphColours", apart := false, narrowed := true }
def GraphColoursUptoSaid : Prop := graphColoursUptoRow.holds Try.pinned (OpenSpec.upto graphColoursSpec)

/-- 'merlonlaw16.GraphUses', WHERE WHAT IT READS IS OF BULK AT MOST 1048576: true; the input reads as it did. -/
def graphUsesUptoRow : OpenClaim := { program := "ytednnkhomfabaaa", sum := "d6c5e5eda462a5b5bb0b11f378ad087a193dc44bdc05c5db4d1edc1ab42ea138", func := "merlon/merlonlaw16.GraphUses", spec := "graphUses", apart := false, narrowed := true }
def GraphUsesUptoSaid : Prop := graphUsesUptoRow.holds Try.pinned (OpenSpec.upto graphUsesSpec)

end Rows
end Go.Proofs.Ytednnkhomfabaaa
