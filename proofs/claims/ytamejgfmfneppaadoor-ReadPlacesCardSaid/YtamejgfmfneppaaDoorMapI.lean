/- Numbers by texts, a map as it stands in memory: looking up, storing. No condition. -/
import Derived.Test.YtamejgfmfneppaaDoorLib
namespace Go.Proofs.YtamejgfmfneppaaDoor
open Go.RowKit
set_option linter.unusedVariables false
/-- a map's entries are these texts with these numbers -/
def MapI (k : IntKind) (es : Array MapEntry) (l : List (List UInt8 × Int)) : Prop :=
  es.toList.map (fun e => (e.key, e.val)) = l.map (fun p => (Value.string ⟨⟨p.1⟩⟩, Value.int k p.2))
theorem MapI.nil (k : IntKind) : MapI k #[] [] := rfl
/-- the number of a text -/
def lookI (l : List (List UInt8 × Int)) (x : List UInt8) : Option Int := (l.find? (fun p => decide (p.1 = x))).map (·.2)
theorem lookI_nil (x : List UInt8) : lookI [] x = none := rfl
theorem lookI_snoc (l : List (List UInt8 × Int)) (x y : List UInt8) (v : Int) : lookI (l ++ [(x, v)]) y = match lookI l y with | some n => some n | none => if x = y then some v else none := by
  unfold lookI
  rw [List.find?_append]
  cases hf : l.find? (fun p => decide (p.1 = y)) with
  | some p => simp
  | none =>
    by_cases h : x = y
    · simp [h]
    · simp [h]
theorem findNow_mapI {k : IntKind} (x : List UInt8) : ∀ (es : List MapEntry) (l : List (List UInt8 × Int)) (i : Nat),
    es.map (fun e => (e.key, e.val)) = l.map (fun p => (Value.string ⟨⟨p.1⟩⟩, Value.int k p.2)) →
    ∃ r, Instr.findNow .string (.string ⟨⟨x⟩⟩) es i = some r ∧ r.map (·.2) = (lookI l x).map (Value.int k)
  | [], [], i, _ => ⟨none, rfl, rfl⟩
  | [], p :: l, i, h => by simp at h
  | e :: es, [], i, h => by simp at h
  | e :: es, p :: l, i, h => by
    simp only [List.map_cons, List.cons.injEq, Prod.mk.injEq] at h
    obtain ⟨⟨h1, h2⟩, h3⟩ := h
    obtain ⟨r, hr, hiff⟩ := MapKept.sameNow_of_keys (d := .string) (a := .string ⟨⟨x⟩⟩) (b := .string ⟨⟨p.1⟩⟩) (by simp [MapKept.IsKey]) (by simp [MapKept.IsKey])
    unfold Instr.findNow
    rw [h1, hr]
    by_cases hx : p.1 = x
    · have : r = true := hiff.2 (by rw [hx])
      subst this
      exact ⟨some (i, e.val), rfl, by simp [lookI, hx, h2]⟩
    · have : r = false := by
        cases r with
        | false => rfl
        | true =>
          have := hiff.1 rfl
          simp only [Value.string.injEq, ByteArray.mk.injEq, Array.mk.injEq] at this
          exact absurd this.symm hx
      subst this
      obtain ⟨r2, g1, g2⟩ := findNow_mapI x es l (i + 1) h3
      refine ⟨r2, g1, ?_⟩
      rw [g2]
      simp [lookI, hx]
section
variable {P : Program} {T K E : TypeId} {k : IntKind} {mp : Nat} {es : Array MapEntry} {clock : Nat} {l : List (List UInt8 × Int)} {w : World}
theorem run_lookI (hT : P.underlying T = some (.map K E)) (hK : P.underlying K = some .string) (hz : ∀ w : World, (zeroValue E).run P w = .ok (.int k 0) w)
    (hm : w.heap[mp]? = some (.map es clock)) (he : MapI k es l) (x : List UInt8) :
    (Instr.lookup T (.map (some mp)) (.string ⟨⟨x⟩⟩) true).run P w = .ok (.tuple #[.int k ((lookI l x).getD 0), .bool (lookI l x).isSome]) w := by
  obtain ⟨r, hr, hl⟩ := findNow_mapI x es.toList l 0 he
  have hc : ∀ b, (Instr.checkKey b 10000 K (.string ⟨⟨x⟩⟩)).run P w = .ok () w := fun b => MapKept.run_checkKey (k := .string ⟨⟨x⟩⟩) hK (by simp [MapKept.IsKey]) b 9999
  cases hx : lookI l x with
  | none =>
    rw [hx] at hl
    have : r = none := by cases r with | none => rfl | some p => simp at hl
    subst this
    simp [Instr.lookup, run_underlying hT, MapKept.run_getObj_map hm, hc, MapKept.run_findKey hK hr, hz, Result.andThen]
  | some n =>
    rw [hx] at hl
    cases r with
    | none => simp at hl
    | some p =>
      obtain ⟨j, v⟩ := p
      simp only [Option.map_some, Option.some.injEq] at hl
      subst hl
      simp [Instr.lookup, run_underlying hT, MapKept.run_getObj_map hm, hc, MapKept.run_findKey hK hr, Result.andThen]
theorem run_storeI (hT : P.underlying T = some (.map K E)) (hK : P.underlying K = some .string)
    (hm : w.heap[mp]? = some (.map es clock)) (he : MapI k es l) (x : List UInt8) (hx : lookI l x = none) (v : Value) :
    (Instr.mapUpdate T (.map (some mp)) (.string ⟨⟨x⟩⟩) v).run P w = .ok () { w with heap := w.heap.setIfInBounds mp (.map (es.push { key := .string ⟨⟨x⟩⟩, val := v, born := clock }) (clock + 1)) } := by
  obtain ⟨r, hr, hl⟩ := findNow_mapI x es.toList l 0 he
  have hrn : r = none := by
    rw [hx] at hl
    cases r with
    | none => rfl
    | some p => simp at hl
  subst hrn
  have hc : ∀ b, (Instr.checkKey b 10000 K (.string ⟨⟨x⟩⟩)).run P w = .ok () w := fun b => MapKept.run_checkKey (k := .string ⟨⟨x⟩⟩) hK (by simp [MapKept.IsKey]) b 9999
  simp [Instr.mapUpdate, run_underlying hT, MapKept.run_getObj_map hm, hc, MapKept.run_findKey hK hr, MapKept.run_setObj_map _ hm, Result.andThen]
end
theorem MapI.push {k : IntKind} {es : Array MapEntry} {l : List (List UInt8 × Int)} (h : MapI k es l) (x : List UInt8) (n : Int) (c : Nat) :
    MapI k (es.push { key := .string ⟨⟨x⟩⟩, val := .int k n, born := c }) (l ++ [(x, n)]) := by
  unfold MapI at *; simp [h]
end Go.Proofs.YtamejgfmfneppaaDoor
