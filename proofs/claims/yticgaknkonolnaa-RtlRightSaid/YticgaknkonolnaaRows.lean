/-
  No cell of these rows narrows 'for every input' (looked for: loops, veiled, ifaces, maps, wideKeys, modest, calm, conditions, laid).
  DERIVED. THE GIVEN ROWS OF THIS SEAT. 5 by the template 'for every input the law returns true; each argument reads behind the call as it read before'; 0 by the template 'total and deterministic' (their statements: YticgaknkonolnaaTotals.lean).
  GIVEN WITH THE SEED: the statements are not yours to turn. If you find one false, say at which input.
  Laid BY PROGRAM, IN A SANDBOX (cutbox-rows.mjs): the forced cells as the released guide's own fill.sh prints them over the translation 1f23d0da20e4b185… (all of the seat's roots in one cut). By AI agents, Wed Nov 11 2026. No macro, syntax, notation, axiom, sorry.
-/
import Derived.Test.YticgaknkonolnaaChecked
import GoSem.Claim
import GoSem.ClaimJoined
import GoSem.ClaimMapViews
import Derived.JoinedTies
import Derived.KernelRfl
namespace Go.Proofs.Yticgaknkonolnaa
/- THE CELL 'sum', in the pinned program and in every row, IS THE sha256 OF THE DUMP (.gsa) THAT YticgaknkonolnaaProg.lean LOADS. Nothing in Lean hashes anything: it is a label: what it is worth is what the hold of that sum in a sandbox is worth. -/
noncomputable def Try.pinned : Pinned := { name := "yticgaknkonolnaa", sum := "1f23d0da20e4b185e44b22cd7de0de4292611622fdf87059a86064dd01cfb19a", checked := Try.checked }
namespace Rows
def none {H : Type} : Left H := { results := [], args := [] }

/-- 'merlonlaw08.RtlReckons': WHATEVER THE INPUT: true; the input reads as it did. -/
def rtlReckonsSpec : ChangeSpec := { name := "rtlReckons", fn := fun _ => fun
  | [d1, d2, d3] => { results := [.lit (.bool true)], args := [d1, d2, d3] }
  | _ => none }
def rtlReckonsRow : OpenClaim := { program := "yticgaknkonolnaa", sum := "1f23d0da20e4b185e44b22cd7de0de4292611622fdf87059a86064dd01cfb19a", func := "merlon/merlonlaw08.RtlReckons", spec := "rtlReckons", apart := false }
def RtlReckonsSaid : Prop := rtlReckonsRow.holds Try.pinned (OpenSpec.ofChange rtlReckonsSpec)

/-- ITS FALSE NEIGHBOUR: 'it returns false'. Refute it at one input. -/
def rtlReckonsWrong : ChangeSpec := { name := "rtlReckons", fn := fun _ => fun
  | [d1, d2, d3] => { results := [.lit (.bool false)], args := [d1, d2, d3] }
  | _ => none }
def RtlReckonsWrongFalsely : Prop := rtlReckonsRow.holds Try.pinned (OpenSpec.ofChange rtlReckonsWrong)

/-- 'merlonlaw08.RtlRight': WHATEVER THE INPUT: true; the input reads as it did. -/
def rtlRightSpec : ChangeSpec := { name := "rtlRight", fn := fun _ => fun
  | [d] => { results := [.lit (.bool true)], args := [d] }
  | _ => none }
def rtlRightRow : OpenClaim := { program := "yticgaknkonolnaa", sum := "1f23d0da20e4b185e44b22cd7de0de4292611622fdf87059a86064dd01cfb19a", func := "merlon/merlonlaw08.RtlRight", spec := "rtlRight", apart := false }
def RtlRightSaid : Prop := rtlRightRow.holds Try.pinned (OpenSpec.ofChange rtlRightSpec)

/-- ITS FALSE NEIGHBOUR: 'it returns false'. Refute it at one input. -/
def rtlRightWrong : ChangeSpec := { name := "rtlRight", fn := fun _ => fun
  | [d] => { results := [.lit (.bool false)], args := [d] }
  | _ => none }
def RtlRightWrongFalsely : Prop := rtlRightRow.holds Try.pinned (OpenSpec.ofChange rtlRightWrong)

/-- 'merlonlaw08.RtlParts': WHATEVER THE INPUT: true; the input reads as it did. -/
def rtlPartsSpec : ChangeSpec := { name := "rtlParts", fn := fun _ => fun
  | [d1, d2] => { results := [.lit (.bool true)], args := [d1, d2] }
  | _ => none }
def rtlPartsRow : OpenClaim := { program := "yticgaknkonolnaa", sum := "1f23d0da20e4b185e44b22cd7de0de4292611622fdf87059a86064dd01cfb19a", func := "merlon/merlonlaw08.RtlParts", spec := "rtlParts", apart := false }
def RtlPartsSaid : Prop := rtlPartsRow.holds Try.pinned (OpenSpec.ofChange rtlPartsSpec)

/-- ITS FALSE NEIGHBOUR: 'it returns false'. Refute it at one input. -/
def rtlPartsWrong : ChangeSpec := { name := "rtlParts", fn := fun _ => fun
  | [d1, d2] => { results := [.lit (.bool false)], args := [d1, d2] }
  | _ => none }
def RtlPartsWrongFalsely : Prop := rtlPartsRow.holds Try.pinned (OpenSpec.ofChange rtlPartsWrong)

/-- 'merlonlaw08.RtlReads': WHATEVER THE INPUT: true; the input reads as it did. -/
def rtlReadsSpec : ChangeSpec := { name := "rtlReads", fn := fun _ => fun
  | [d] => { results := [.lit (.bool true)], args := [d] }
  | _ => none }
def rtlReadsRow : OpenClaim := { program := "yticgaknkonolnaa", sum := "1f23d0da20e4b185e44b22cd7de0de4292611622fdf87059a86064dd01cfb19a", func := "merlon/merlonlaw08.RtlReads", spec := "rtlReads", apart := false }
def RtlReadsSaid : Prop := rtlReadsRow.holds Try.pinned (OpenSpec.ofChange rtlReadsSpec)

/-- ITS FALSE NEIGHBOUR: 'it returns false'. Refute it at one input. -/
def rtlReadsWrong : ChangeSpec := { name := "rtlReads", fn := fun _ => fun
  | [d] => { results := [.lit (.bool false)], args := [d] }
  | _ => none }
def RtlReadsWrongFalsely : Prop := rtlReadsRow.holds Try.pinned (OpenSpec.ofChange rtlReadsWrong)

/-- 'merlonlaw08.RtlWidens': WHATEVER THE INPUT: true; the input reads as it did. -/
def rtlWidensSpec : ChangeSpec := { name := "rtlWidens", fn := fun _ => fun
  | [d1, d2, d3] => { results := [.lit (.bool true)], args := [d1, d2, d3] }
  | _ => none }
def rtlWidensRow : OpenClaim := { program := "yticgaknkonolnaa", sum := "1f23d0da20e4b185e44b22cd7de0de4292611622fdf87059a86064dd01cfb19a", func := "merlon/merlonlaw08.RtlWidens", spec := "rtlWidens", apart := false }
def RtlWidensSaid : Prop := rtlWidensRow.holds Try.pinned (OpenSpec.ofChange rtlWidensSpec)

/-- ITS FALSE NEIGHBOUR: 'it returns false'. Refute it at one input. -/
def rtlWidensWrong : ChangeSpec := { name := "rtlWidens", fn := fun _ => fun
  | [d1, d2, d3] => { results := [.lit (.bool false)], args := [d1, d2, d3] }
  | _ => none }
def RtlWidensWrongFalsely : Prop := rtlWidensRow.holds Try.pinned (OpenSpec.ofChange rtlWidensWrong)

/- THE SECOND FORM. 'bulk': how many values and letters a reading holds, each counted each time it is reached (what is shared counts as often as it is met; a slice's spare places count too). A statement '..UptoSaid' is the law's where the arguments, and the package variables that the reading takes, are together of bulk at most 1048576: NARROWER than '..Said'. Prove '..Said' where nothing that the law and all that it calls make is longer than what came in: it says more and counts as full. Else prove '..UptoSaid'. A law counts once. -/
mutual
def uptoBulk {H : Type} : DataW H → Nat
  | .lit (.string bytes) => bytes.length + 1
  | .lit _ => 1
  | .nil => 1
  | .ptr d => uptoBulk d + 1
  | .slice elems spare => uptoBulkAll elems + uptoBulkAll spare + 1
  | .agg parts => uptoBulkAll parts + 1
  | .iface _ d => uptoBulk d + 1
  | .map entries => uptoBulkEntries entries + 1
  | .held _ => 1
def uptoBulkAll {H : Type} : List (DataW H) → Nat
  | [] => 0
  | d :: r => uptoBulk d + uptoBulkAll r
def uptoBulkEntries {H : Type} : List (Lit × DataW H) → Nat
  | [] => 0
  | x :: r => uptoBulkEntry x + uptoBulkEntries r
def uptoBulkEntry {H : Type} : Lit × DataW H → Nat
  | (.string bytes, d) => bytes.length + uptoBulk d + 1
  | (_, d) => uptoBulk d + 1
 end
def uptoSmall : (H : Type) → List (DataW H) → Bool := fun _ ds => decide (uptoBulkAll ds ≤ 1048576)
def OpenSpec.upto (s : _root_.Go.ChangeSpec) : _root_.Go.OpenSpec := { _root_.Go.OpenSpec.ofChange s with cond := some uptoSmall }

/-- 'merlonlaw08.RtlReckons', WHERE WHAT IT READS IS OF BULK AT MOST 1048576: true; the input reads as it did. -/
def rtlReckonsUptoRow : OpenClaim := { program := "yticgaknkonolnaa", sum := "1f23d0da20e4b185e44b22cd7de0de4292611622fdf87059a86064dd01cfb19a", func := "merlon/merlonlaw08.RtlReckons", spec := "rtlReckons", apart := false, narrowed := true }
def RtlReckonsUptoSaid : Prop := rtlReckonsUptoRow.holds Try.pinned (OpenSpec.upto rtlReckonsSpec)

/-- 'merlonlaw08.RtlRight', WHERE WHAT IT READS IS OF BULK AT MOST 1048576: true; the input reads as it did. -/
def rtlRightUptoRow : OpenClaim := { program := "yticgaknkonolnaa", sum := "1f23d0da20e4b185e44b22cd7de0de4292611622fdf87059a86064dd01cfb19a", func := "merlon/merlonlaw08.RtlRight", spec := "rtlRight", apart := false, narrowed := true }
def RtlRightUptoSaid : Prop := rtlRightUptoRow.holds Try.pinned (OpenSpec.upto rtlRightSpec)

/-- 'merlonlaw08.RtlParts', WHERE WHAT IT READS IS OF BULK AT MOST 1048576: true; the input reads as it did. -/
def rtlPartsUptoRow : OpenClaim := { program := "yticgaknkonolnaa", sum := "1f23d0da20e4b185e44b22cd7de0de4292611622fdf87059a86064dd01cfb19a", func := "merlon/merlonlaw08.RtlParts", spec := "rtlParts", apart := false, narrowed := true }
def RtlPartsUptoSaid : Prop := rtlPartsUptoRow.holds Try.pinned (OpenSpec.upto rtlPartsSpec)

/-- 'merlonlaw08.RtlReads', WHERE WHAT IT READS IS OF BULK AT MOST 1048576: true; the input reads as it did. -/
def rtlReadsUptoRow : OpenClaim := { program := "yticgaknkonolnaa", sum := "1f23d0da20e4b185e44b22cd7de0de4292611622fdf87059a86064dd01cfb19a", func := "merlon/merlonlaw08.RtlReads", spec := "rtlReads", apart := false, narrowed := true }
def RtlReadsUptoSaid : Prop := rtlReadsUptoRow.holds Try.pinned (OpenSpec.upto rtlReadsSpec)

/-- 'merlonlaw08.RtlWidens', WHERE WHAT IT READS IS OF BULK AT MOST 1048576: true; the input reads as it did. -/
def rtlWidensUptoRow : OpenClaim := { program := "yticgaknkonolnaa", sum := "1f23d0da20e4b185e44b22cd7de0de4292611622fdf87059a86064dd01cfb19a", func := "merlon/merlonlaw08.RtlWidens", spec := "rtlWidens", apart := false, narrowed := true }
def RtlWidensUptoSaid : Prop := rtlWidensUptoRow.holds Try.pinned (OpenSpec.upto rtlWidensSpec)

end Rows
end Go.Proofs.Yticgaknkonolnaa
