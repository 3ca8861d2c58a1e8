/-
  No cell of these rows narrows 'for every input' (looked for: loops, veiled, ifaces, maps, wideKeys, modest, calm, conditions, laid).
  DERIVED. THE GIVEN ROWS OF THIS SEAT. 5 by the template 'for every input the law returns true; each argument reads behind the call as it read before'; 0 by the template 'total and deterministic' (their statements: YteeodbjpmofhhaaTotals.lean).
  GIVEN WITH THE SEED: the statements are not yours to turn. If you find one false, say at which input.
  Laid BY PROGRAM, IN A SANDBOX (cutbox-rows.mjs): the forced cells as the released guide's own fill.sh prints them over the translation 3eecda01cd3bd04b… (all of the seat's roots in one cut). By AI agents, Wed Nov 11 2026. No macro, syntax, notation, axiom, sorry.
-/
import Derived.Test.YteeodbjpmofhhaaChecked
import GoSem.Claim
import GoSem.ClaimJoined
import GoSem.ClaimMapViews
import Derived.JoinedTies
import Derived.KernelRfl
namespace Go.Proofs.Yteeodbjpmofhhaa
/- THE CELL 'sum', in the pinned program and in every row, IS THE sha256 OF THE DUMP (.gsa) THAT YteeodbjpmofhhaaProg.lean LOADS. Nothing in Lean hashes anything: it is a label: what it is worth is what the hold of that sum in a sandbox is worth. -/
noncomputable def Try.pinned : Pinned := { name := "yteeodbjpmofhhaa", sum := "3eecda01cd3bd04b9cfbba9a537f6b2385250488c9bc93148000ec24e8fde1d2", checked := Try.checked }
namespace Rows
def none {H : Type} : Left H := { results := [], args := [] }

/-- 'merlonlaw18.X86Alu': WHATEVER THE INPUT: true; the input reads as it did. -/
def x86AluSpec : ChangeSpec := { name := "x86Alu", fn := fun _ => fun
  | [d1, d2, d3] => { results := [.lit (.bool true)], args := [d1, d2, d3] }
  | _ => none }
def x86AluRow : OpenClaim := { program := "yteeodbjpmofhhaa", sum := "3eecda01cd3bd04b9cfbba9a537f6b2385250488c9bc93148000ec24e8fde1d2", func := "merlon/merlonlaw18.X86Alu", spec := "x86Alu", apart := false }
def X86AluSaid : Prop := x86AluRow.holds Try.pinned (OpenSpec.ofChange x86AluSpec)

/-- ITS FALSE NEIGHBOUR: 'it returns false'. Refute it at one input. -/
def x86AluWrong : ChangeSpec := { name := "x86Alu", fn := fun _ => fun
  | [d1, d2, d3] => { results := [.lit (.bool false)], args := [d1, d2, d3] }
  | _ => none }
def X86AluWrongFalsely : Prop := x86AluRow.holds Try.pinned (OpenSpec.ofChange x86AluWrong)

/-- 'merlonlaw18.X86Parts': WHATEVER THE INPUT: true; the input reads as it did. -/
def x86PartsSpec : ChangeSpec := { name := "x86Parts", fn := fun _ => fun
  | [d1, d2] => { results := [.lit (.bool true)], args := [d1, d2] }
  | _ => none }
def x86PartsRow : OpenClaim := { program := "yteeodbjpmofhhaa", sum := "3eecda01cd3bd04b9cfbba9a537f6b2385250488c9bc93148000ec24e8fde1d2", func := "merlon/merlonlaw18.X86Parts", spec := "x86Parts", apart := false }
def X86PartsSaid : Prop := x86PartsRow.holds Try.pinned (OpenSpec.ofChange x86PartsSpec)

/-- ITS FALSE NEIGHBOUR: 'it returns false'. Refute it at one input. -/
def x86PartsWrong : ChangeSpec := { name := "x86Parts", fn := fun _ => fun
  | [d1, d2] => { results := [.lit (.bool false)], args := [d1, d2] }
  | _ => none }
def X86PartsWrongFalsely : Prop := x86PartsRow.holds Try.pinned (OpenSpec.ofChange x86PartsWrong)

/-- 'merlonlaw18.X86Right': WHATEVER THE INPUT: true; the input reads as it did. -/
def x86RightSpec : ChangeSpec := { name := "x86Right", fn := fun _ => fun
  | [d] => { results := [.lit (.bool true)], args := [d] }
  | _ => none }
def x86RightRow : OpenClaim := { program := "yteeodbjpmofhhaa", sum := "3eecda01cd3bd04b9cfbba9a537f6b2385250488c9bc93148000ec24e8fde1d2", func := "merlon/merlonlaw18.X86Right", spec := "x86Right", apart := false }
def X86RightSaid : Prop := x86RightRow.holds Try.pinned (OpenSpec.ofChange x86RightSpec)

/-- ITS FALSE NEIGHBOUR: 'it returns false'. Refute it at one input. -/
def x86RightWrong : ChangeSpec := { name := "x86Right", fn := fun _ => fun
  | [d] => { results := [.lit (.bool false)], args := [d] }
  | _ => none }
def X86RightWrongFalsely : Prop := x86RightRow.holds Try.pinned (OpenSpec.ofChange x86RightWrong)

/-- 'merlonlaw18.X86Widens': WHATEVER THE INPUT: true; the input reads as it did. -/
def x86WidensSpec : ChangeSpec := { name := "x86Widens", fn := fun _ => fun
  | [d1, d2, d3] => { results := [.lit (.bool true)], args := [d1, d2, d3] }
  | _ => none }
def x86WidensRow : OpenClaim := { program := "yteeodbjpmofhhaa", sum := "3eecda01cd3bd04b9cfbba9a537f6b2385250488c9bc93148000ec24e8fde1d2", func := "merlon/merlonlaw18.X86Widens", spec := "x86Widens", apart := false }
def X86WidensSaid : Prop := x86WidensRow.holds Try.pinned (OpenSpec.ofChange x86WidensSpec)

/-- ITS FALSE NEIGHBOUR: 'it returns false'. Refute it at one input. -/
def x86WidensWrong : ChangeSpec := { name := "x86Widens", fn := fun _ => fun
  | [d1, d2, d3] => { results := [.lit (.bool false)], args := [d1, d2, d3] }
  | _ => none }
def X86WidensWrongFalsely : Prop := x86WidensRow.holds Try.pinned (OpenSpec.ofChange x86WidensWrong)

/-- 'merlonlaw18.X86Conds': WHATEVER THE INPUT: true; the input reads as it did. -/
def x86CondsSpec : ChangeSpec := { name := "x86Conds", fn := fun _ => fun
  | [d1, d2, d3] => { results := [.lit (.bool true)], args := [d1, d2, d3] }
  | _ => none }
def x86CondsRow : OpenClaim := { program := "yteeodbjpmofhhaa", sum := "3eecda01cd3bd04b9cfbba9a537f6b2385250488c9bc93148000ec24e8fde1d2", func := "merlon/merlonlaw18.X86Conds", spec := "x86Conds", apart := false }
def X86CondsSaid : Prop := x86CondsRow.holds Try.pinned (OpenSpec.ofChange x86CondsSpec)

/-- ITS FALSE NEIGHBOUR: 'it returns false'. Refute it at one input. -/
def x86CondsWrong : ChangeSpec := { name := "x86Conds", fn := fun _ => fun
  | [d1, d2, d3] => { results := [.lit (.bool false)], args := [d1, d2, d3] }
  | _ => none }
def X86CondsWrongFalsely : Prop := x86CondsRow.holds Try.pinned (OpenSpec.ofChange x86CondsWrong)

/- THE SECOND FORM. 'bulk': how many values and letters a reading holds, each counted each time it is reached (what is shared counts as often as it is met; a slice's spare places count too). A statement '..UptoSaid' is the law's where the arguments, and the package variables that the reading takes, are together of bulk at most 1048576: NARROWER than '..Said'. Prove '..Said' where nothing that the law and all that it calls make is longer than what came in: it says more and counts as full. Else prove '..UptoSaid'. A law counts once. -/
mutual
def uptoBulk {H : Type} : DataW H → Nat
  | .lit (.string bytes) => bytes.length + 1
  | .lit _ => 1
  | .nil => 1
  | .ptr d => uptoBulk d + 1
  | .slice elems spare => uptoBulkAll elems + uptoBulkAll spare + 1
  | .agg parts => uptoBulkAll parts + 1
  | .iface _ d => uptoBulk d + 1
  | .map entries => uptoBulkEntries entries + 1
  | .held _ => 1
def uptoBulkAll {H : Type} : List (DataW H) → Nat
  | [] => 0
  | d :: r => uptoBulk d + uptoBulkAll r
def uptoBulkEntries {H : Type} : List (Lit × DataW H) → Nat
  | [] => 0
  | x :: r => uptoBulkEntry x + uptoBulkEntries r
def uptoBulkEntry {H : Type} : Lit × DataW H → Nat
  | (.string bytes, d) => bytes.length + uptoBulk d + 1
  | (_, d) => uptoBulk d + 1
 end
def uptoSmall : (H : Type) → List (DataW H) → Bool := fun _ ds => decide (uptoBulkAll ds ≤ 1048576)
def OpenSpec.upto (s : _root_.Go.ChangeSpec) : _root_.Go.OpenSpec := { _root_.Go.OpenSpec.ofChange s with cond := some uptoSmall }

/-- 'merlonlaw18.X86Alu', WHERE WHAT IT READS IS OF BULK AT MOST 1048576: true; the input reads as it did. -/
def x86AluUptoRow : OpenClaim := { program := "yteeodbjpmofhhaa", sum := "3eecda01cd3bd04b9cfbba9a537f6b2385250488c9bc93148000ec24e8fde1d2", func := "merlon/merlonlaw18.X86Alu", spec := "x86Alu", apart := false, narrowed := true }
def X86AluUptoSaid : Prop := x86AluUptoRow.holds Try.pinned (OpenSpec.upto x86AluSpec)

/-- 'merlonlaw18.X86Parts', WHERE WHAT IT READS IS OF BULK AT MOST 1048576: true; the input reads as it did. -/
def x86PartsUptoRow : OpenClaim := { program := "yteeodbjpmofhhaa", sum := "3eecda01cd3bd04b9cfbba9a537f6b2385250488c9bc93148000ec24e8fde1d2", func := "merlon/merlonlaw18.X86Parts", spec := "x86Parts", apart := false, narrowed := true }
def X86PartsUptoSaid : Prop := x86PartsUptoRow.holds Try.pinned (OpenSpec.upto x86PartsSpec)

/-- 'merlonlaw18.X86Right', WHERE WHAT IT READS IS OF BULK AT MOST 1048576: true; the input reads as it did. -/
def x86RightUptoRow : OpenClaim := { program := "yteeodbjpmofhhaa", sum := "3eecda01cd3bd04b9cfbba9a537f6b2385250488c9bc93148000ec24e8fde1d2", func := "merlon/merlonlaw18.X86Right", spec := "x86Right", apart := false, narrowed := true }
def X86RightUptoSaid : Prop := x86RightUptoRow.holds Try.pinned (OpenSpec.upto x86RightSpec)

/-- 'merlonlaw18.X86Widens', WHERE WHAT IT READS IS OF BULK AT MOST 1048576: true; the input reads as it did. -/
def x86WidensUptoRow : OpenClaim := { program := "yteeodbjpmofhhaa", sum := "3eecda01cd3bd04b9cfbba9a537f6b2385250488c9bc93148000ec24e8fde1d2", func := "merlon/merlonlaw18.X86Widens", spec := "x86Widens", apart := false, narrowed := true }
def X86WidensUptoSaid : Prop := x86WidensUptoRow.holds Try.pinned (OpenSpec.upto x86WidensSpec)

/-- 'merlonlaw18.X86Conds', WHERE WHAT IT READS IS OF BULK AT MOST 1048576: true; the input reads as it did. -/
def x86CondsUptoRow : OpenClaim := { program := "yteeodbjpmofhhaa", sum := "3eecda01cd3bd04b9cfbba9a537f6b2385250488c9bc93148000ec24e8fde1d2", func := "merlon/merlonlaw18.X86Conds", spec := "x86Conds", apart := false, narrowed := true }
def X86CondsUptoSaid : Prop := x86CondsUptoRow.holds Try.pinned (OpenSpec.upto x86CondsSpec)

end Rows
end Go.Proofs.Yteeodbjpmofhhaa
