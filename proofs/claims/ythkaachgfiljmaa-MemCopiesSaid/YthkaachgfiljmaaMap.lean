/- Maps with numbers as keys, as they stand in memory: looking up, storing. No condition. -/
import Derived.Test.YthkaachgfiljmaaLib
namespace Go.Proofs.Ythkaachgfiljmaa
open Go.RowKit
set_option linter.unusedVariables false
/-- a map's entries are these pairs of a key and a value -/
def Ents (k : IntKind) (es : Array MapEntry) (l : List (Int × Value)) : Prop :=
  es.toList.map (fun e => (e.key, e.val)) = l.map (fun p => (Value.int k p.1, p.2))
/-- the value of a key -/
def look (l : List (Int × Value)) (x : Int) : Option Value := (l.find? (fun p => p.1 == x)).map (·.2)
theorem findNow_ents {k : IntKind} (x : Int) : ∀ (es : List MapEntry) (l : List (Int × Value)) (i : Nat),
    es.map (fun e => (e.key, e.val)) = l.map (fun p => (Value.int k p.1, p.2)) →
    ∃ r, Instr.findNow (.int k) (.int k x) es i = some r ∧ r.map (·.2) = look l x
  | [], [], i, _ => ⟨none, rfl, rfl⟩
  | [], p :: l, i, h => by simp at h
  | e :: es, [], i, h => by simp at h
  | e :: es, p :: l, i, h => by
    simp only [List.map_cons, List.cons.injEq, Prod.mk.injEq] at h
    obtain ⟨⟨h1, h2⟩, h3⟩ := h
    simp only [Instr.findNow, h1, Instr.sameNow, if_true, look, List.find?_cons]
    by_cases hx : x = p.1
    · subst hx; exact ⟨some (i, e.val), by simp, by simp [h2]⟩
    · have e1 : (x == p.1) = false := by simpa using hx
      have e2 : (p.1 == x) = false := by simpa using fun h => hx h.symm
      rw [e1, e2]
      exact findNow_ents x es l (i + 1) h3
theorem run_look {P : Program} {T K E : TypeId} {k : IntKind} {mp : Nat} {es : Array MapEntry} {clock : Nat} {l : List (Int × Value)} {z : Value} {w : World}
    (hT : P.underlying T = some (.map K E)) (hK : P.underlying K = some (.int k)) (hz : ∀ w : World, (zeroValue E).run P w = .ok z w)
    (hm : w.heap[mp]? = some (.map es clock)) (he : Ents k es l) (x : Int) :
    (Instr.lookup T (.map (some mp)) (.int k x) false).run P w = .ok ((look l x).getD z) w := by
  obtain ⟨r, hr, hl⟩ := findNow_ents x es.toList l 0 he
  have hc : ∀ b, (Instr.checkKey b 10000 K (.int k x)).run P w = .ok () w := fun b => MapKept.run_checkKey (k := .int k x) hK (by simp [MapKept.IsKey]) b 9999
  rw [← hl]
  cases r with
  | none => simp [Instr.lookup, run_underlying hT, MapKept.run_getObj_map hm, hc, MapKept.run_findKey hK hr, hz, Result.andThen]
  | some p => simp [Instr.lookup, run_underlying hT, MapKept.run_getObj_map hm, hc, MapKept.run_findKey hK hr, Result.andThen]
theorem run_store {P : Program} {T K E : TypeId} {k : IntKind} {mp : Nat} {es : Array MapEntry} {clock : Nat} {l : List (Int × Value)} {w : World}
    (hT : P.underlying T = some (.map K E)) (hK : P.underlying K = some (.int k))
    (hm : w.heap[mp]? = some (.map es clock)) (he : Ents k es l) (x : Int) (hx : look l x = none) (v : Value) :
    (Instr.mapUpdate T (.map (some mp)) (.int k x) v).run P w = .ok () { w with heap := w.heap.setIfInBounds mp (.map (es.push { key := .int k x, val := v, born := clock }) (clock + 1)) } := by
  obtain ⟨r, hr, hl⟩ := findNow_ents x es.toList l 0 he
  have hrn : r = none := by
    rw [hx] at hl; cases r with
    | none => rfl
    | some p => simp at hl
  subst hrn
  have hc : ∀ b, (Instr.checkKey b 10000 K (.int k x)).run P w = .ok () w := fun b => MapKept.run_checkKey (k := .int k x) hK (by simp [MapKept.IsKey]) b 9999
  simp [Instr.mapUpdate, run_underlying hT, MapKept.run_getObj_map hm, hc, MapKept.run_findKey hK hr, MapKept.run_setObj_map _ hm, Result.andThen]
theorem Ents.push {k : IntKind} {es : Array MapEntry} {l : List (Int × Value)} (h : Ents k es l) (x : Int) (v : Value) (c : Nat) :
    Ents k (es.push { key := .int k x, val := v, born := c }) (l ++ [(x, v)]) := by
  unfold Ents at *; simp [h]
theorem look_push (l : List (Int × Value)) (x y : Int) (v : Value) (hx : look l x = none) : look (l ++ [(x, v)]) y = if y = x then some v else look l y := by
  unfold look at *
  rw [List.find?_append]
  by_cases h : y = x
  · subst h
    rw [if_pos rfl]
    cases hf : l.find? (fun p => p.1 == y) with
    | none => simp
    | some p => rw [hf] at hx; simp at hx
  · rw [if_neg h]
    cases hf : l.find? (fun p => p.1 == y) with
    | none =>
      have : (x == y) = false := by simpa using fun e => h e.symm
      simp [this]
    | some p => simp
end Go.Proofs.Ythkaachgfiljmaa
