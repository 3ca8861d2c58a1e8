/-
  No cell of these rows narrows 'for every input' (looked for: loops, veiled, ifaces, maps, wideKeys, modest, calm, conditions, laid).
  DERIVED. THE GIVEN ROWS OF THIS SEAT. 3 by the template 'for every input the law returns true; each argument reads behind the call as it read before'; 0 by the template 'total and deterministic' (their statements: YtilljobnaoefiaaTotals.lean).
  GIVEN WITH THE SEED: the statements are not yours to turn. If you find one false, say at which input.
  Laid BY PROGRAM, IN A SANDBOX (cutbox-rows.mjs): the forced cells as the released guide's own fill.sh prints them over the translation 72298470fd7de318… (all of the seat's roots in one cut). By AI agents, Wed Nov 11 2026. No macro, syntax, notation, axiom, sorry.
-/
import Derived.Test.YtilljobnaoefiaaChecked
import GoSem.Claim
import GoSem.ClaimJoined
import GoSem.ClaimMapViews
import Derived.JoinedTies
import Derived.KernelRfl
namespace Go.Proofs.Ytilljobnaoefiaa
/- THE CELL 'sum', in the pinned program and in every row, IS THE sha256 OF THE DUMP (.gsa) THAT YtilljobnaoefiaaProg.lean LOADS. Nothing in Lean hashes anything: it is a label: what it is worth is what the hold of that sum in a sandbox is worth. -/
noncomputable def Try.pinned : Pinned := { name := "ytilljobnaoefiaa", sum := "72298470fd7de318005c79d721579115309e1b28ac5b1a6caab884f1eb3cd6ac", checked := Try.checked }
namespace Rows
def none {H : Type} : Left H := { results := [], args := [] }

/-- 'merlonlaw02.CtypeSame': WHATEVER THE INPUT: true; the input reads as it did. -/
def ctypeSameSpec : ChangeSpec := { name := "ctypeSame", fn := fun _ => fun
  | [d1, d2] => { results := [.lit (.bool true)], args := [d1, d2] }
  | _ => none }
def ctypeSameRow : OpenClaim := { program := "ytilljobnaoefiaa", sum := "72298470fd7de318005c79d721579115309e1b28ac5b1a6caab884f1eb3cd6ac", func := "merlon/merlonlaw02.CtypeSame", spec := "ctypeSame", recurses := true, apart := false }
def CtypeSameSaid : Prop := ctypeSameRow.holds Try.pinned (OpenSpec.ofChange ctypeSameSpec)

/-- ITS FALSE NEIGHBOUR: 'it returns false'. Refute it at one input. -/
def ctypeSameWrong : ChangeSpec := { name := "ctypeSame", fn := fun _ => fun
  | [d1, d2] => { results := [.lit (.bool false)], args := [d1, d2] }
  | _ => none }
def CtypeSameWrongFalsely : Prop := ctypeSameRow.holds Try.pinned (OpenSpec.ofChange ctypeSameWrong)

/-- 'merlonlaw02.CtypeNone': WHATEVER THE INPUT: true; the input reads as it did. -/
def ctypeNoneSpec : ChangeSpec := { name := "ctypeNone", fn := fun _ => fun
  | [d1, d2] => { results := [.lit (.bool true)], args := [d1, d2] }
  | _ => none }
def ctypeNoneRow : OpenClaim := { program := "ytilljobnaoefiaa", sum := "72298470fd7de318005c79d721579115309e1b28ac5b1a6caab884f1eb3cd6ac", func := "merlon/merlonlaw02.CtypeNone", spec := "ctypeNone", recurses := true, apart := false }
def CtypeNoneSaid : Prop := ctypeNoneRow.holds Try.pinned (OpenSpec.ofChange ctypeNoneSpec)

/-- ITS FALSE NEIGHBOUR: 'it returns false'. Refute it at one input. -/
def ctypeNoneWrong : ChangeSpec := { name := "ctypeNone", fn := fun _ => fun
  | [d1, d2] => { results := [.lit (.bool false)], args := [d1, d2] }
  | _ => none }
def CtypeNoneWrongFalsely : Prop := ctypeNoneRow.holds Try.pinned (OpenSpec.ofChange ctypeNoneWrong)

/-- 'merlonlaw02.CtypeCommon': WHATEVER THE INPUT: true; the input reads as it did. -/
def ctypeCommonSpec : ChangeSpec := { name := "ctypeCommon", fn := fun _ => fun
  | [d1, d2] => { results := [.lit (.bool true)], args := [d1, d2] }
  | _ => none }
def ctypeCommonRow : OpenClaim := { program := "ytilljobnaoefiaa", sum := "72298470fd7de318005c79d721579115309e1b28ac5b1a6caab884f1eb3cd6ac", func := "merlon/merlonlaw02.CtypeCommon", spec := "ctypeCommon", recurses := true, apart := false }
def CtypeCommonSaid : Prop := ctypeCommonRow.holds Try.pinned (OpenSpec.ofChange ctypeCommonSpec)

/-- ITS FALSE NEIGHBOUR: 'it returns false'. Refute it at one input. -/
def ctypeCommonWrong : ChangeSpec := { name := "ctypeCommon", fn := fun _ => fun
  | [d1, d2] => { results := [.lit (.bool false)], args := [d1, d2] }
  | _ => none }
def CtypeCommonWrongFalsely : Prop := ctypeCommonRow.holds Try.pinned (OpenSpec.ofChange ctypeCommonWrong)

/- THE SECOND FORM. 'bulk': how many values and letters a reading holds, each counted each time it is reached (what is shared counts as often as it is met; a slice's spare places count too). A statement '..UptoSaid' is the law's where the arguments, and the package variables that the reading takes, are together of bulk at most 1048576: NARROWER than '..Said'. Prove '..Said' where nothing that the law and all that it calls make is longer than what came in: it says more and counts as full. Else prove '..UptoSaid'. A law counts once. -/
mutual
def uptoBulk {H : Type} : DataW H → Nat
  | .lit (.string bytes) => bytes.length + 1
  | .lit _ => 1
  | .nil => 1
  | .ptr d => uptoBulk d + 1
  | .slice elems spare => uptoBulkAll elems + uptoBulkAll spare + 1
  | .agg parts => uptoBulkAll parts + 1
  | .iface _ d => uptoBulk d + 1
  | .map entries => uptoBulkEntries entries + 1
  | .held _ => 1
def uptoBulkAll {H : Type} : List (DataW H) → Nat
  | [] => 0
  | d :: r => uptoBulk d + uptoBulkAll r
def uptoBulkEntries {H : Type} : List (Lit × DataW H) → Nat
  | [] => 0
  | x :: r => uptoBulkEntry x + uptoBulkEntries r
def uptoBulkEntry {H : Type} : Lit × DataW H → Nat
  | (.string bytes, d) => bytes.length + uptoBulk d + 1
  | (_, d) => uptoBulk d + 1
 end
def uptoSmall : (H : Type) → List (DataW H) → Bool := fun _ ds => decide (uptoBulkAll ds ≤ 1048576)
def OpenSpec.upto (s : _root_.Go.ChangeSpec) : _root_.Go.OpenSpec := { _root_.Go.OpenSpec.ofChange s with cond := some uptoSmall }

/-- 'merlonlaw02.CtypeSame', WHERE WHAT IT READS IS OF BULK AT MOST 1048576: true; the input reads as it did. -/
def ctypeSameUptoRow : OpenClaim := { program := "ytilljobnaoefiaa", sum := "72298470fd7de318005c79d721579115309e1b28ac5b1a6caab884f1eb3cd6ac", func := "merlon/merlonlaw02.CtypeSame", spec := "ctypeSame", recurses := true, apart := false, narrowed := true }
def CtypeSameUptoSaid : Prop := ctypeSameUptoRow.holds Try.pinned (OpenSpec.upto ctypeSameSpec)

/-- 'merlonlaw02.CtypeNone', WHERE WHAT IT READS IS OF BULK AT MOST 1048576: true; the input reads as it did. -/
def ctypeNoneUptoRow : OpenClaim := { program := "ytilljobnaoefiaa", sum := "72298470fd7de318005c79d721579115309e1b28ac5b1a6caab884f1eb3cd6ac", func := "merlon/merlonlaw02.CtypeNone", spec := "ctypeNone", recurses := true, apart := false, narrowed := true }
def CtypeNoneUptoSaid : Prop := ctypeNoneUptoRow.holds Try.pinned (OpenSpec.upto ctypeNoneSpec)

/-- 'merlonlaw02.CtypeCommon', WHERE WHAT IT READS IS OF BULK AT MOST 1048576: true; the input reads as it did. -/
def ctypeCommonUptoRow : OpenClaim := { program := "ytilljobnaoefiaa", sum := "72298470fd7de318005c79d721579115309e1b28ac5b1a6caab884f1eb3cd6ac", func := "merlon/merlonlaw02.CtypeCommon", spec := "ctypeCommon", recurses := true, apart := false, narrowed := true }
def CtypeCommonUptoSaid : Prop := ctypeCommonUptoRow.holds Try.pinned (OpenSpec.upto ctypeCommonSpec)

end Rows
end Go.Proofs.Ytilljobnaoefiaa
