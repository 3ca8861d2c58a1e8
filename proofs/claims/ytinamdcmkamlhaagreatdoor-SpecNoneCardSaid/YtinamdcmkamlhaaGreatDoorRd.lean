/- Arguments of any shape: what stands where they read, part by part. Over any program. No condition. -/
import Derived.Test.YtinamdcmkamlhaaGreatDoorLib
import Derived.Test.YtinamdcmkamlhaaGreatDoorOpen
import Derived.ChangeMaps5
import Derived.DataElems
namespace Go.Proofs.YtinamdcmkamlhaaGreatDoor
open Go.Joins Go.ChangeShapes Go.WideShapes Go.RowKit Go.Deep
set_option linter.unusedVariables false
section
variable {H : Type} {enc : TypeId × Value → H} {P : Program} {w : World}
/-- the cells read, as of a type -/
def Rd (enc : TypeId × Value → H) (P : Program) (w : World) (T : TypeId) (cs : List Value) : Prop := ∃ fuel x, DataW.trod enc P w 0 (fun _ => true) true fuel T cs = some x
theorem Rd.of_trod {T : TypeId} {v : Value} {d : DataW H} {ps : List MemPlace} (h : DataW.Trod enc P w 0 (fun _ => true) true T v d ps) : Rd enc P w T v.cells.toList := by
  obtain ⟨fuel, hf⟩ := h
  exact ⟨fuel, _, hf⟩
theorem Rd.int {T : TypeId} {k : IntKind} {cs : List Value} (ht : P.underlying T = some (.int k)) (h : Rd enc P w T cs) : ∃ n, cs = [.int k n] ∧ (Lit.int k n).wf = true := by
  obtain ⟨fuel, x, hf⟩ := h
  obtain ⟨n, h1, _, h3⟩ := DataW.trod_int ht hf
  exact ⟨n, h1, h3⟩
theorem Rd.bool {T : TypeId} {cs : List Value} (ht : P.underlying T = some .bool) (h : Rd enc P w T cs) : ∃ b, cs = [.bool b] := by
  obtain ⟨fuel, x, hf⟩ := h
  obtain ⟨b, h1, _⟩ := DataW.trod_bool ht hf
  exact ⟨b, h1⟩
theorem Rd.string {T : TypeId} {cs : List Value} (ht : P.underlying T = some .string) (h : Rd enc P w T cs) : ∃ s : ByteArray, cs = [.string s] ∧ s.size ≤ maxLen := by
  obtain ⟨fuel, x, hf⟩ := h
  obtain ⟨s, h1, _, h3⟩ := DataW.trod_string ht hf
  exact ⟨s, h1, h3⟩
theorem Rd.struct {T : TypeId} {fs : Array Field} {cs : List Value} (hs : P.underlying T = some (.struct fs)) (h : Rd enc P w T cs) :
    cs.length = P.cellsOf T ∧ ∀ (i : Nat) (f : Field), fs[i]? = some f → Rd enc P w f.type ((cs.drop f.offset).take (P.cellsOf f.type)) := by
  obtain ⟨fuel, x, hf⟩ := h
  obtain ⟨xs, n, _, _, h1, h2, h3⟩ := DataW.trod_struct hs hf
  refine ⟨h1, fun i f hi => ?_⟩
  have hlt : i < xs.length := by rw [h2]; exact (Array.getElem?_eq_some_iff.1 hi).1
  exact ⟨n, xs[i], (h3 i f hi).trans (List.getElem?_eq_getElem hlt)⟩
/-- the elements of a slice that came in: C cells each -/
def SliceAt (w : World) (A : Option Addr) (len C : Nat) (R : List Value → Prop) : Prop :=
  ∀ i, i < len → ∃ ad cs, A = some ad ∧ cs.length = C ∧ (∀ j, j < C → w.cell? (ad.add (i * C + j)) = cs[j]?) ∧ R cs
theorem Rd.slice {T e : TypeId} {cs : List Value} (ht : P.underlying T = some (.slice e)) (h : Rd enc P w T cs) :
    ∃ A len cap, cs = [.slice A len cap] ∧ len ≤ cap ∧ cap ≤ maxLen ∧ SliceAt w A len (P.cellsOf e) (Rd enc P w e) := by
  obtain ⟨fuel, x, hf⟩ := h
  rcases DataW.trod_slice ht hf with ⟨h1, _⟩ | ⟨a, len, cap, elems, rest, n, _, h1, _, _, h2, h3, h4, h5, _⟩
  · exact ⟨none, 0, 0, h1, Nat.le_refl _, by decide, fun i hi => by omega⟩
  · refine ⟨some a, len, cap, h1, h2, h3, fun i hi => ?_⟩
    have e := h5 i hi
    rw [List.getElem?_eq_getElem (by omega), Option.bind_eq_some_iff] at e
    obtain ⟨cs', g1, g2⟩ := e
    obtain ⟨_, k1, k2⟩ := World.cells?_some g1
    refine ⟨a, cs', rfl, k1, fun j hj => ?_, n, _, g2⟩
    rw [← k2 j hj, Addr.add_add]
theorem rd_cell_lt {a : Addr} {v : Value} (h : w.cell? a = some v) : a.block < w.heap.size := World.block_lt_of_cell? w a h
end
theorem block_add (a : Addr) (n : Nat) : (a.add n).block = a.block := by unfold Addr.add; split <;> rfl
/-- an element of one cell, in a later world -/
theorem SliceAt.one {w w' : World} {A : Option Addr} {len k : Nat} {R : List Value → Prop} (h : SliceAt w A len 1 R) (hb : Below w.heap.size w w') (hk : k < len) :
    ∃ ad u, A = some ad ∧ w'.cell? (ad.add k) = some u ∧ R [u] := by
  obtain ⟨ad, cs, h1, h2, h3, h4⟩ := h k hk
  obtain ⟨u, rfl⟩ : ∃ u, cs = [u] := by
    match cs, h2 with
    | [u], _ => exact ⟨u, rfl⟩
  have e := h3 0 (by omega)
  rw [Nat.mul_one, Nat.add_zero] at e
  have e' : w.cell? (ad.add k) = some u := by simpa using e
  refine ⟨ad, u, h1, ?_, h4⟩
  rw [← e']
  exact hb.cell (p := ad.add k) (by have := rd_cell_lt e'; exact this)
section
variable {H : Type} {enc : TypeId × Value → H} {P : Program} {w : World}
/-- an argument that is a slice -/
theorem open_slice {r : Reach} {b0 : Nat} {T e : TypeId} {v : Value} {d : DataW H} {p : List MemPlace} (ht : P.underlying T = some (.slice e)) (hv : Value.okWide P w r b0 T v) (h : DataW.Trod enc P w 0 (fun _ => true) true T v d p) :
    ∃ A len cap, v = .slice A len cap ∧ len ≤ cap ∧ cap ≤ maxLen ∧ SliceAt w A len (P.cellsOf e) (Rd enc P w e) := by
  obtain ⟨a, len, cap, rfl⟩ := okWide_slice ht hv
  obtain ⟨A, len', cap', h1, h2⟩ := Rd.slice ht (Rd.of_trod h)
  simp [Value.cells] at h1
  obtain ⟨rfl, rfl, rfl⟩ := h1
  exact ⟨_, _, _, rfl, h2⟩
end
end Go.Proofs.YtinamdcmkamlhaaGreatDoor
