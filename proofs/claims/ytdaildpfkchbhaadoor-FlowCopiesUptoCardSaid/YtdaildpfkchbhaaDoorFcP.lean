/- FlowCopies: what rtl's Show says of a function, plain. No condition. -/
import Derived.Test.YtdaildpfkchbhaaDoorRu
import Derived.Lib.ItoaLen
import Derived.Lib.Join
namespace Go.Proofs.YtdaildpfkchbhaaDoor
open Go.RowKit
set_option linter.unusedVariables false
theorem mk_size (l : List UInt8) : (⟨⟨l⟩⟩ : ByteArray).size = l.length := rfl
def numS (n : Int) : List UInt8 := Lib.itoa n
theorem numS_len {n : Int} (h : In64 n) : (numS n).length ≤ 21 := Lib.itoa_length_le n (by have := h.1; omega) (by have := h.2; omega)
/-- an argument's text -/
def argS (a : ArgD) : List UInt8 := if a.reg < 0 then numS a.num else 114 :: numS a.reg
theorem argS_len {a : ArgD} (h1 : In64 a.reg) (h2 : In64 a.num) : (argS a).length ≤ 22 := by
  unfold argS; split
  · have := numS_len h2; omega
  · have := numS_len h1; rw [List.length_cons]; omega
/-- the operations' names -/
def namesT : List (List UInt8) := [[], [99, 111, 110, 115, 116], [99, 111, 112, 121], [97, 100, 100], [115, 117, 98], [109, 117, 108], [100, 105, 118], [117, 100, 105, 118], [114, 101, 109], [117, 114, 101, 109], [97, 110, 100], [111, 114], [120, 111, 114], [115, 104, 108], [115, 97, 114], [115, 104, 114],
  [101, 113], [110, 101], [108, 116], [108, 101], [117, 108, 116], [117, 108, 101], [101, 120, 116], [103, 108, 111, 98, 97, 108], [115, 108, 111, 116], [102, 117, 110, 99], [108, 111, 97, 100], [115, 116, 111, 114, 101], [99, 97, 108, 108], [99, 97, 108, 108, 97, 116], [111, 117, 116]]
theorem namesT_length : namesT.length = 31 := by decide +kernel
def nameS (op : Int) : List UInt8 := namesT.getD op.toNat []
theorem nameS_len (op : Int) : (nameS op).length ≤ 6 := by
  unfold nameS
  by_cases h : op.toNat < 31
  · have : ∀ k : Fin 31, (namesT.getD k.val []).length ≤ 6 := by decide +kernel
    exact this ⟨_, h⟩
  · rw [List.getD_eq_getElem?_getD, List.getElem?_eq_none (by rw [namesT_length]; omega)]; decide
/-- an instruction's words -/
def headS (x : InsD) : List UInt8 :=
  (if 0 < x.op ∧ x.op < 31 then nameS x.op else [63]) ++
  (if x.op = 22 ∨ x.op = 26 ∨ x.op = 27 then numS (8 * x.size) ++ (if x.signed = true then [115] else []) else [])
def wordsD (x : InsD) : List (List UInt8) := if 0 ≤ x.dst then [114 :: numS x.dst ++ [32, 61]] else []
def wordsR (x : InsD) : List (List UInt8) := if x.op = 23 ∨ x.op = 24 ∨ x.op = 25 ∨ x.op = 28 then [35 :: numS x.ref] else []
def wordsA (l : List ArgD) : List (List UInt8) := l.map argS
def wordsO (x : InsD) : List (List UInt8) := if x.off = 0 then [] else [43 :: numS x.off]
def wordsS (x : InsD) : List (List UInt8) := if x.secret = true then [[115, 101, 99, 114, 101, 116]] else []
def wordsI (x : InsD) : List (List UInt8) := wordsD x ++ [headS x] ++ wordsR x ++ wordsA (readsD x) ++ wordsO x ++ wordsS x
def insS (x : InsD) : List UInt8 := Lib.join (wordsI x) [32]
/-- an end's line -/
def termS (t : TermD) : List UInt8 :=
  if t.kind = 1 then [32, 32, 106, 117, 109, 112, 32, 98] ++ numS t.to_
  else if t.kind = 2 then [32, 32, 105, 102, 32] ++ nameS t.op ++ [32] ++ argS t.a ++ [32] ++ argS t.b ++ [32, 98] ++ numS t.to_ ++ [32, 101, 108, 115, 101, 32, 98] ++ numS t.els
  else [32, 32, 114, 101, 116, 32] ++ argS t.a
/-- a function's lines -/
def linesB (i : Nat) (b : BlockD) : List (List UInt8) := [98 :: numS (i : Int) ++ [58]] ++ b.ins.map (fun x => [32, 32] ++ insS x) ++ [termS b.term]
def linesG : Nat → List BlockD → List (List UInt8)
  | _, [] => []
  | i, b :: r => linesB i b ++ linesG (i + 1) r
def linesF (f : FuncD) : List (List UInt8) := (f.name.data.toList ++ [32] ++ numS f.params ++ [58]) :: linesG 0 f.blocks
def funcS (f : FuncD) : List UInt8 := Lib.join (linesF f) [10] ++ [10]
theorem linesG_append : ∀ (i : Nat) (l r : List BlockD), linesG i (l ++ r) = linesG i l ++ linesG (i + l.length) r
  | i, [], r => by simp [linesG]
  | i, b :: l, r => by
    simp only [List.cons_append, linesG, List.length_cons]
    rw [linesG_append (i + 1) l r, List.append_assoc, show i + 1 + l.length = i + (l.length + 1) by omega]
theorem linesG_take (l : List BlockD) (i : Nat) (b : BlockD) (h : l[i]? = some b) : linesG 0 (l.take (i + 1)) = linesG 0 (l.take i) ++ linesB i b := by
  have hlt := (List.getElem?_eq_some_iff.1 h).1
  rw [List.take_add_one, h, linesG_append]
  simp [linesG, List.length_take, Nat.min_eq_left (Nat.le_of_lt hlt)]
/-- how long it may be -/
def LensLe (K : Nat) (ls : List (List UInt8)) : Prop := ∀ s, s ∈ ls → s.length ≤ K
theorem lens_le {K : Nat} : ∀ {ls : List (List UInt8)}, LensLe K ls → Lib.lens ls ≤ K * ls.length
  | [], _ => by simp [Lib.lens]
  | s :: r, h => by
    have h1 := h s (by simp)
    have h2 := lens_le (ls := r) fun t ht => h t (by simp [ht])
    have h3 : Lib.lens (s :: r) = s.length + Lib.lens r := by simp [Lib.lens]
    rw [h3, List.length_cons, Nat.mul_add, Nat.mul_one]; omega
theorem join_le {K : Nat} {ls : List (List UInt8)} {sep : List UInt8} (h : LensLe K ls) : (Lib.join ls sep).length ≤ (K + sep.length) * ls.length := by
  cases ls with
  | nil => simp [Lib.join_nil]
  | cons x r =>
    have h2 := lens_le h
    rw [Lib.join_length, Nat.add_mul]
    have : sep.length * r.length ≤ sep.length * (x :: r).length := Nat.mul_le_mul_left _ (by simp)
    omega
theorem headS_len {x : InsD} (h : In64 (8 * x.size)) : (headS x).length ≤ 28 := by
  unfold headS
  have h1 := nameS_len x.op
  have h2 := numS_len h
  rw [List.length_append]
  split <;> split <;> (try split) <;> simp only [List.length_append, List.length_cons, List.length_nil] <;> omega
end Go.Proofs.YtdaildpfkchbhaaDoor
