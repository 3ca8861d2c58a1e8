/-
  No cell of these rows narrows 'for every input' (looked for: loops, veiled, ifaces, maps, wideKeys, modest, calm, conditions, laid).
  DERIVED. THE GIVEN ROWS OF THIS SEAT. 3 by the template 'for every input the law returns true; each argument reads behind the call as it read before'; 0 by the template 'total and deterministic' (their statements: YtegnaeinpacafaaTotals.lean).
  GIVEN WITH THE SEED: the statements are not yours to turn. If you find one false, say at which input.
  Laid BY PROGRAM, IN A SANDBOX (cutbox-rows.mjs): the forced cells as the released guide's own fill.sh prints them over the translation c6abde67cdc81f17… (all of the seat's roots in one cut). By AI agents, Wed Nov 11 2026. No macro, syntax, notation, axiom, sorry.
-/
import Derived.Test.YtegnaeinpacafaaChecked
import GoSem.Claim
import GoSem.ClaimJoined
import GoSem.ClaimMapViews
import Derived.JoinedTies
import Derived.KernelRfl
namespace Go.Proofs.Ytegnaeinpacafaa
/- THE CELL 'sum', in the pinned program and in every row, IS THE sha256 OF THE DUMP (.gsa) THAT YtegnaeinpacafaaProg.lean LOADS. Nothing in Lean hashes anything: it is a label: what it is worth is what the hold of that sum in a sandbox is worth. -/
noncomputable def Try.pinned : Pinned := { name := "ytegnaeinpacafaa", sum := "c6abde67cdc81f17d7b5ad6aadef690dd2cee94656ceb415ace5d52568972e09", checked := Try.checked }
namespace Rows
def none {H : Type} : Left H := { results := [], args := [] }

/-- 'merlonlaw17.AllocFew': WHATEVER THE INPUT: true; the input reads as it did. -/
def allocFewSpec : ChangeSpec := { name := "allocFew", fn := fun _ => fun
  | [d] => { results := [.lit (.bool true)], args := [d] }
  | _ => none }
def allocFewRow : OpenClaim := { program := "ytegnaeinpacafaa", sum := "c6abde67cdc81f17d7b5ad6aadef690dd2cee94656ceb415ace5d52568972e09", func := "merlon/merlonlaw17.AllocFew", spec := "allocFew", apart := false }
def AllocFewSaid : Prop := allocFewRow.holds Try.pinned (OpenSpec.ofChange allocFewSpec)

/-- ITS FALSE NEIGHBOUR: 'it returns false'. Refute it at one input. -/
def allocFewWrong : ChangeSpec := { name := "allocFew", fn := fun _ => fun
  | [d] => { results := [.lit (.bool false)], args := [d] }
  | _ => none }
def AllocFewWrongFalsely : Prop := allocFewRow.holds Try.pinned (OpenSpec.ofChange allocFewWrong)

/-- 'merlonlaw17.AllocAll': WHATEVER THE INPUT: true; the input reads as it did. -/
def allocAllSpec : ChangeSpec := { name := "allocAll", fn := fun _ => fun
  | [d] => { results := [.lit (.bool true)], args := [d] }
  | _ => none }
def allocAllRow : OpenClaim := { program := "ytegnaeinpacafaa", sum := "c6abde67cdc81f17d7b5ad6aadef690dd2cee94656ceb415ace5d52568972e09", func := "merlon/merlonlaw17.AllocAll", spec := "allocAll", apart := false }
def AllocAllSaid : Prop := allocAllRow.holds Try.pinned (OpenSpec.ofChange allocAllSpec)

/-- ITS FALSE NEIGHBOUR: 'it returns false'. Refute it at one input. -/
def allocAllWrong : ChangeSpec := { name := "allocAll", fn := fun _ => fun
  | [d] => { results := [.lit (.bool false)], args := [d] }
  | _ => none }
def AllocAllWrongFalsely : Prop := allocAllRow.holds Try.pinned (OpenSpec.ofChange allocAllWrong)

/-- 'merlonlaw17.AllocMay': WHATEVER THE INPUT: true; the input reads as it did. -/
def allocMaySpec : ChangeSpec := { name := "allocMay", fn := fun _ => fun
  | [d] => { results := [.lit (.bool true)], args := [d] }
  | _ => none }
def allocMayRow : OpenClaim := { program := "ytegnaeinpacafaa", sum := "c6abde67cdc81f17d7b5ad6aadef690dd2cee94656ceb415ace5d52568972e09", func := "merlon/merlonlaw17.AllocMay", spec := "allocMay", apart := false }
def AllocMaySaid : Prop := allocMayRow.holds Try.pinned (OpenSpec.ofChange allocMaySpec)

/-- ITS FALSE NEIGHBOUR: 'it returns false'. Refute it at one input. -/
def allocMayWrong : ChangeSpec := { name := "allocMay", fn := fun _ => fun
  | [d] => { results := [.lit (.bool false)], args := [d] }
  | _ => none }
def AllocMayWrongFalsely : Prop := allocMayRow.holds Try.pinned (OpenSpec.ofChange allocMayWrong)

/- THE SECOND FORM. 'bulk': how many values and letters a reading holds, each counted each time it is reached (what is shared counts as often as it is met; a slice's spare places count too). A statement '..UptoSaid' is the law's where the arguments, and the package variables that the reading takes, are together of bulk at most 1048576: NARROWER than '..Said'. Prove '..Said' where nothing that the law and all that it calls make is longer than what came in: it says more and counts as full. Else prove '..UptoSaid'. A law counts once. -/
mutual
def uptoBulk {H : Type} : DataW H → Nat
  | .lit (.string bytes) => bytes.length + 1
  | .lit _ => 1
  | .nil => 1
  | .ptr d => uptoBulk d + 1
  | .slice elems spare => uptoBulkAll elems + uptoBulkAll spare + 1
  | .agg parts => uptoBulkAll parts + 1
  | .iface _ d => uptoBulk d + 1
  | .map entries => uptoBulkEntries entries + 1
  | .held _ => 1
def uptoBulkAll {H : Type} : List (DataW H) → Nat
  | [] => 0
  | d :: r => uptoBulk d + uptoBulkAll r
def uptoBulkEntries {H : Type} : List (Lit × DataW H) → Nat
  | [] => 0
  | x :: r => uptoBulkEntry x + uptoBulkEntries r
def uptoBulkEntry {H : Type} : Lit × DataW H → Nat
  | (.string bytes, d) => bytes.length + uptoBulk d + 1
  | (_, d) => uptoBulk d + 1
 end
def uptoSmall : (H : Type) → List (DataW H) → Bool := fun _ ds => decide (uptoBulkAll ds ≤ 1048576)
def OpenSpec.upto (s : _root_.Go.ChangeSpec) : _root_.Go.OpenSpec := { _root_.Go.OpenSpec.ofChange s with cond := some uptoSmall }

/-- 'merlonlaw17.AllocFew', WHERE WHAT IT READS IS OF BULK AT MOST 1048576: true; the input reads as it did. -/
def allocFewUptoRow : OpenClaim := { program := "ytegnaeinpacafaa", sum := "c6abde67cdc81f17d7b5ad6aadef690dd2cee94656ceb415ace5d52568972e09", func := "merlon/merlonlaw17.AllocFew", spec := "allocFew", apart := false, narrowed := true }
def AllocFewUptoSaid : Prop := allocFewUptoRow.holds Try.pinned (OpenSpec.upto allocFewSpec)

/-- 'merlonlaw17.AllocAll', WHERE WHAT IT READS IS OF BULK AT MOST 1048576: true; the input reads as it did. -/
def allocAllUptoRow : OpenClaim := { program := "ytegnaeinpacafaa", sum := "c6abde67cdc81f17d7b5ad6aadef690dd2cee94656ceb415ace5d52568972e09", func := "merlon/merlonlaw17.AllocAll", spec := "allocAll", apart := false, narrowed := true }
def AllocAllUptoSaid : Prop := allocAllUptoRow.holds Try.pinned (OpenSpec.upto allocAllSpec)

/-- 'merlonlaw17.AllocMay', WHERE WHAT IT READS IS OF BULK AT MOST 1048576: true; the input reads as it did. -/
def allocMayUptoRow : OpenClaim := { program := "ytegnaeinpacafaa", sum := "c6abde67cdc81f17d7b5ad6aadef690dd2cee94656ceb415ace5d52568972e09", func := "merlon/merlonlaw17.AllocMay", spec := "allocMay", apart := false, narrowed := true }
def AllocMayUptoSaid : Prop := allocMayUptoRow.holds Try.pinned (OpenSpec.upto allocMaySpec)

end Rows
end Go.Proofs.Ytegnaeinpacafaa
