/- read.Link: what labels, instructions and data come to, plain. No condition. -/
import Derived.Test.YtamejgfmfneppaaDoorXpr
import Derived.Test.YtamejgfmfneppaaDoorMapI
namespace Go.Proofs.YtamejgfmfneppaaDoor
open Go.RowKit
set_option linter.unusedVariables false
abbrev Plc := List (List UInt8 × Int)
def nmL (s : ByteArray) : List UInt8 := s.data.toList
def datE (n : Int) (ps : Plc) : Except Int (Int × Plc) := if n > 65536 then .error 2 else .ok (n, ps)
/-- a datum's label, its bytes -/
def datS (s : Int × Plc) (d : XDatumD) : Except Int (Int × Plc) :=
  if d.kind = 0 then (match lookI s.2 (nmL d.name) with
    | some _ => .error 31
    | none => datE s.1 (s.2 ++ [(nmL d.name, 65536 + s.1)]))
  else if d.kind = 1 then datE (s.1 + d.data.length) s.2
  else if d.kind = 2 then datE (s.1 + 8) s.2
  else if d.n < 0 ∨ 65536 < d.n then .error 2 else datE (s.1 + d.n) s.2
/-- an item's label, its number -/
def itS (s : Int × Plc × Plc) (x : XItemD) : Except Int (Int × Plc × Plc) :=
  if nmL x.label = [] then .ok (s.1 + 1, s.2.1, s.2.2)
  else (match lookI s.2.1 (nmL x.label) with
    | some _ => .error 31
    | none => .ok (s.1, s.2.1 ++ [(nmL x.label, 4194304 + s.1)], s.2.2 ++ [(nmL x.label, s.1)]))
def callsB (o : Int) : Bool := decide (o = 35) || decide (o = 36)
def lastCall (c : List XInsD) : Bool := match c.getLast? with | some x => callsB x.op | none => false
def lnPut (s : List XInsD × List Bool) (x : XInsD) : Except Int (List XInsD × List Bool) := .ok (s.1 ++ [x], s.2 ++ [lastCall s.1])
/-- an item, linked -/
def lnS (right : XInsD → Bool) (ps cs : Plc) (s : List XInsD × List Bool) (x : XItemD) : Except Int (List XInsD × List Bool) :=
  if nmL x.label ≠ [] then .ok s
  else if right x.ins = false then .error 30
  else if x.ins.op = 6 then (match lookI ps (nmL x.ins.to_) with
    | none => .error 31
    | some a => lnPut s { x.ins with imm := a })
  else if x.ins.op = 33 ∨ x.ins.op = 34 ∨ x.ins.op = 35 then (match lookI cs (nmL x.ins.to_) with
    | none => .error 31
    | some a => lnPut s { x.ins with imm := a })
  else lnPut s x.ins
/-- the bytes of data -/
def byS (ps : Plc) (s : Int) (d : XDatumD) : Except Int Int :=
  if d.kind = 1 then .ok (s + d.data.length)
  else if d.kind = 2 then (match lookI ps (nmL d.name) with
    | none => .error 31
    | some _ => .ok (s + 8))
  else if d.kind = 3 ∨ d.kind = 4 ∨ d.kind = 5 then .ok (s + d.n)
  else .ok s
theorem foldlM_snoc {α β : Type} (f : β → α → Except Int β) {l : List α} {k : Nat} {x : α} (h : l[k]? = some x) (s s' : β) (h1 : (l.take k).foldlM f s = .ok s') : (l.take (k + 1)).foldlM f s = f s' x := by
  rw [List.take_add_one, h, List.foldlM_append, h1]
  show (Option.toList (some x)).foldlM f s' = f s' x
  rw [Option.toList_some, List.foldlM_cons]
  cases f s' x <;> rfl
theorem foldlM_err {α β : Type} (f : β → α → Except Int β) {l : List α} {k : Nat} {s : β} {e : Int} (h1 : (l.take k).foldlM f s = .error e) : l.foldlM f s = .error e := by
  conv => lhs; rw [← List.take_append_drop k l]
  rw [List.foldlM_append, h1]; rfl
end Go.Proofs.YtamejgfmfneppaaDoor
