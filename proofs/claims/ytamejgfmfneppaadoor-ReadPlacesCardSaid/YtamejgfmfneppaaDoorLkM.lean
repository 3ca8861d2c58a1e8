/- read.Link: the linker in memory: its two maps. No condition. -/
import Derived.Test.YtamejgfmfneppaaDoorLkP
import Derived.Test.YtamejgfmfneppaaDoorOw
namespace Go.Proofs.YtamejgfmfneppaaDoor
open Go.RowKit
set_option linter.unusedVariables false
theorem map_lt {w : World} {g c : Nat} {es : Array MapEntry} (h : w.heap[g]? = some (.map es c)) : g < w.heap.size := (Array.getElem?_eq_some_iff.1 h).1
def setObj (w : World) (g : Nat) (o : Obj) : World := { w with heap := w.heap.setIfInBounds g o }
theorem setObj_same {w : World} {g : Nat} (h : g < w.heap.size) (o : Obj) : (setObj w g o).heap[g]? = some o := by simp [setObj, h]
theorem setObj_ne {w : World} {g k : Nat} (h : g ≠ k) (o : Obj) : (setObj w g o).heap[k]? = w.heap[k]? := by simp [setObj, Array.getElem?_setIfInBounds_ne h]
theorem setObj_below {B : Nat} {w0 w : World} (h : Below B w0 w) {g : Nat} (hg : B ≤ g) (o : Obj) : Below B w0 (setObj w g o) :=
  ⟨h.os, h.tape, h.output, by simpa [setObj] using h.size, fun k hk => (setObj_ne (by omega) o).trans (h.block k hk)⟩
/-- a linker: places, and places of code -/
structure LkM (w0 w : World) (gk gp gc : Nat) (ps cs : Plc) : Prop where
  box : w.heap[gk]? = some (.cells #[.map (some gp), .map (some gc)] 55 (0, 0))
  pm : ∃ es ck, w.heap[gp]? = some (.map es ck) ∧ MapI .i64 es ps
  cm : ∃ es ck, w.heap[gc]? = some (.map es ck) ∧ MapI .i64 es cs
  ne : gp ≠ gc
  ok : w0.heap.size ≤ gk
  op : w0.heap.size ≤ gp
  oc : w0.heap.size ≤ gc
  bel : Below w0.heap.size w0 w
theorem LkM.later {w0 w w' : World} {gk gp gc : Nat} {ps cs : Plc} (h : LkM w0 w gk gp gc ps cs) (hb : Below w.heap.size w w') : LkM w0 w' gk gp gc ps cs := by
  obtain ⟨e1, c1, p1, p2⟩ := h.pm
  obtain ⟨e2, c2, q1, q2⟩ := h.cm
  exact ⟨blk_below h.box hb, ⟨e1, c1, (hb.block gp (map_lt p1)).trans p1, p2⟩, ⟨e2, c2, (hb.block gc (map_lt q1)).trans q1, q2⟩, h.ne, h.ok, h.op, h.oc, h.bel.trans (hb.mono h.bel.size)⟩
theorem LkM.kp {w0 w : World} {gk gp gc : Nat} {ps cs : Plc} (h : LkM w0 w gk gp gc ps cs) : gp ≠ gk ∧ gc ≠ gk := by
  obtain ⟨e1, c1, p1, _⟩ := h.pm
  obtain ⟨e2, c2, q1, _⟩ := h.cm
  refine ⟨fun e => ?_, fun e => ?_⟩
  · subst e; rw [h.box] at p1; cases p1
  · subst e; rw [h.box] at q1; cases q1
/-- a place is laid down -/
theorem LkM.putP {w0 w : World} {gk gp gc : Nat} {ps cs : Plc} (h : LkM w0 w gk gp gc ps cs) {es : Array MapEntry} {ck : Nat} (hm : w.heap[gp]? = some (.map es ck)) (he : MapI .i64 es ps) (x : List UInt8) (n : Int) :
    LkM w0 (setObj w gp (.map (es.push { key := .string ⟨⟨x⟩⟩, val := .int .i64 n, born := ck }) (ck + 1))) gk gp gc (ps ++ [(x, n)]) cs := by
  obtain ⟨e2, c2, q1, q2⟩ := h.cm
  exact ⟨(setObj_ne h.kp.1 _).trans h.box, ⟨_, _, setObj_same (map_lt hm) _, he.push x n ck⟩, ⟨e2, c2, (setObj_ne h.ne _).trans q1, q2⟩, h.ne, h.ok, h.op, h.oc, setObj_below h.bel h.op _⟩
theorem LkM.putC {w0 w : World} {gk gp gc : Nat} {ps cs : Plc} (h : LkM w0 w gk gp gc ps cs) {es : Array MapEntry} {ck : Nat} (hm : w.heap[gc]? = some (.map es ck)) (he : MapI .i64 es cs) (x : List UInt8) (n : Int) :
    LkM w0 (setObj w gc (.map (es.push { key := .string ⟨⟨x⟩⟩, val := .int .i64 n, born := ck }) (ck + 1))) gk gp gc ps (cs ++ [(x, n)]) := by
  obtain ⟨e1, c1, p1, p2⟩ := h.pm
  exact ⟨(setObj_ne h.kp.2 _).trans h.box, ⟨e1, c1, (setObj_ne (Ne.symm h.ne) _).trans p1, p2⟩, ⟨_, _, setObj_same (map_lt hm) _, he.push x n ck⟩, h.ne, h.ok, h.op, h.oc, setObj_below h.bel h.oc _⟩
end Go.Proofs.YtamejgfmfneppaaDoor
