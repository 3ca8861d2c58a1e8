/- Tables of structs, sizes, and what labels a type's bytes get: plain. No condition. -/
import Derived.Test.YtpcfibnnboenhaaCsP
namespace Go.Proofs.Ytpcfibnnboenhaa
open Go.RowKit
set_option linter.unusedVariables false
structure FldP where
  name : ByteArray
  ty : Ty
  at_ : Int
structure RecP where
  name : ByteArray
  fields : List FldP
  size : Int
  align : Int
def recNone : RecP := ⟨⟨#[]⟩, [], 0, 1⟩
def recT (tab : List RecP) (k : Int) : RecP := if 0 ≤ k then tab.getD k.toNat recNone else recNone
def hugeS : Int := 1099511627776
def sizeT (tab : List RecP) : Ty → Int
  | .int s _ _ => s
  | .ptr _ => 8
  | .arr e n => if 0 < n ∧ hugeS / n < sizeT tab e then hugeS else n * sizeT tab e
  | .str k => (recT tab k).size
  | .fn _ _ _ => 0
def alignT (tab : List RecP) : Ty → Int
  | .int s _ _ => s
  | .ptr _ => 8
  | .arr e n => alignT tab e
  | .str k => (recT tab k).align
  | .fn _ _ _ => 1
/-- a type that may come: sizes and lengths not below zero -/
def OkT : Ty → Prop
  | .int s _ _ => s = 1 ∨ s = 2 ∨ s = 4 ∨ s = 8
  | .ptr _ => True
  | .arr e n => 0 ≤ n ∧ n ≤ 1048576 ∧ OkT e
  | .str k => In64 k
  | .fn _ _ _ => False
/-- the structs that a type holds (not behind pointers) have numbers below d -/
def Under (d : Nat) : Ty → Prop
  | .arr e _ => Under d e
  | .str k => k < d
  | _ => True
/-- bytes at .. at + n become c -/
def setB : List Bool → Nat → Nat → Bool → List Bool
  | l, _, 0, _ => l
  | l, a, n + 1, c => setB (l.set a c) (a + 1) n c
theorem setB_length : ∀ (n a : Nat) (l : List Bool) (c : Bool), (setB l a n c).length = l.length
  | 0, _, _, _ => rfl
  | n + 1, a, l, c => by rw [setB, setB_length n]; simp
/-- what a part's bytes become, with structs of number below d -/
def markL (tab : List RecP) : Nat → Ty → Nat → List Bool → List Bool
  | _, .int s _ c, a, l => setB l a s.toNat c
  | d, .arr e n, a, l => (List.range n.toNat).foldl (fun l i => markL tab d e (a + i * (sizeT tab e).toNat) l) l
  | 0, .str _, _, l => l
  | d + 1, .str k, a, l => (recT tab k).fields.foldl (fun l f => markL tab d f.ty (a + f.at_.toNat) l) l
  | _, _, _, l => l
termination_by d t => (d, SizeOf.sizeOf t)
/-- a table as 'Add' makes it -/
def WfT (tab : List RecP) : Prop := ∀ k, 0 ≤ (recT tab k).size ∧ (recT tab k).size ≤ 2097152 ∧ 1 ≤ (recT tab k).align ∧ (recT tab k).align ≤ 8 ∧ ∀ f ∈ (recT tab k).fields, OkT f.ty ∧ Under k.toNat f.ty ∧ 0 ≤ f.at_ ∧ 0 < sizeT tab f.ty ∧ f.at_ + sizeT tab f.ty ≤ (recT tab k).size
theorem WfT.huge {tab : List RecP} (h : WfT tab) (k : Int) : 0 ≤ (recT tab k).size ∧ (recT tab k).size ≤ hugeS := by
  have := h k
  unfold hugeS
  omega
end Go.Proofs.Ytpcfibnnboenhaa
