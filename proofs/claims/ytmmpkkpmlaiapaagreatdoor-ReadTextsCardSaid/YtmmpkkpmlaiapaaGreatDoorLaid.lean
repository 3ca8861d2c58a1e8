/- What listed tables of numbers hold, cell by cell. No condition. -/
import Derived.Test.YtmmpkkpmlaiapaaGreatDoorLib
import Derived.LaidMore
import Derived.LaidSub
import Derived.Lib.LaidTab
namespace Go.Proofs.YtmmpkkpmlaiapaaGreatDoor
open Go.ChangeShapes Go.WideShapes Go.RowKit
set_option linter.unusedVariables false
theorem laidVars_mem {P : Program} {w : World} : ∀ {l : List (String × DataW Unit)} {ps : List MemPlace}, DataW.LaidVars P w l ps → ∀ n d, (n, d) ∈ l →
    ∃ g t cs f p q, P.globalNamed n = some g ∧ (P.globals[g]?).map (·.type) = some t ∧ w.var? P n = some cs ∧ DataW.trod (H := Unit) (fun _ => ()) P w 0 (fun _ => true) false f t cs.toList = some (d, p) ∧ q = p
  | [], _, _, n, d, hm => by cases hm
  | (n', d') :: l, ps, h, n, d, hm => by
    obtain ⟨g, t, cs, f, p, q, h1, h2, h3, h4, h5, h6⟩ := h
    rcases List.mem_cons.1 hm with e | hm'
    · cases e
      exact ⟨g, t, cs, f, p, p, h1, h2, h3, h4, rfl⟩
    · exact laidVars_mem h5 n d hm'
/-- a table of numbers, as it is listed -/
def flatD (k : IntKind) (l : List Int) : DataW Unit := .agg (l.map fun x => .lit (.int k x))
theorem flat_cells {P : Program} {w : World} {l : List (String × DataW Unit)} (h : laidMetH P l w) {n : String} {k : IntKind} {xs : List Int} (hm : (n, flatD k xs) ∈ l) {g t e m : Nat} (hg : P.globalNamed n = some g) (ht : (P.globals[g]?).map (·.type) = some t)
    (hT : P.underlying t = some (.array m e)) (hE : P.underlying e = some (.int k)) (hc : P.cellsOf e = 1) : ∀ (i : Nat) v, (xs.map (Value.int k))[i]? = some v → w.cell? ⟨g, i, none⟩ = some v := by
  have h1 := (laidMetH_iff.1 h).1
  have hm' : (n, flatD k xs) ∈ l.filter fun x => x.2.handleName?.isNone := List.mem_filter.2 ⟨hm, rfl⟩
  obtain ⟨ps, hl, _, _⟩ := h1
  obtain ⟨g', t', cs, f, p, q, e1, e2, e3, e4, _⟩ := laidVars_mem hl n _ hm'
  obtain rfl := Option.some.inj (e1.symm.trans hg)
  obtain rfl := Option.some.inj (e2.symm.trans ht)
  obtain ⟨ys, m1, _, hx, _, hlen, hi⟩ := DataW.trod_array hT e4
  intro i v hv
  have hilt : i < xs.length := by
    have := (List.getElem?_eq_some_iff.1 hv).1
    simpa using this
  simp only [flatD, Prod.mk.injEq, DataW.agg.injEq] at hx
  have hmap := hx.1
  have hly : ys.length = xs.length := by
    have := congrArg List.length hmap
    simpa using this.symm
  have him : i < m := by omega
  have h0 := hi i him
  rw [hc, Nat.mul_one] at h0
  have hiy : i < ys.length := by omega
  rw [List.getElem?_eq_getElem hiy] at h0
  obtain ⟨z, q1, q2, _⟩ := DataW.trod_int hE h0
  have hz : z = xs[i] := by
    have := congrArg (fun l => l[i]?) hmap
    simp only [List.getElem?_map, List.getElem?_eq_getElem hilt, List.getElem?_eq_getElem hiy, Option.map_some, q2] at this
    simpa using this.symm
  subst hz
  have hcell := World.var?_cell e1 e3 i
  rw [hcell]
  have h5 : cs.toList[i]? = some (.int k xs[i]) := by
    have := congrArg (fun l => l[0]?) q1
    simpa [List.getElem?_take, List.getElem?_drop] using this
  rw [List.getElem?_map, List.getElem?_eq_getElem hilt] at hv
  simp only [Option.map_some, Option.some.injEq] at hv
  rw [← hv]
  simpa using h5
/-- .. and the variable as a whole -/
theorem flat_var {P : Program} {w : World} {l : List (String × DataW Unit)} (h : laidMetH P l w) {n : String} {k : IntKind} {xs : List Int} (hm : (n, flatD k xs) ∈ l) {g t e m : Nat} (hg : P.globalNamed n = some g) (ht : (P.globals[g]?).map (·.type) = some t)
    (hT : P.underlying t = some (.array m e)) (hE : P.underlying e = some (.int k)) (hc : P.cellsOf e = 1) (hct : P.cellsOf t = m) : Lib.TabIs P w n k xs := by
  have h1 := (laidMetH_iff.1 h).1
  have hm' : (n, flatD k xs) ∈ l.filter fun x => x.2.handleName?.isNone := List.mem_filter.2 ⟨hm, rfl⟩
  obtain ⟨ps, hl, _, _⟩ := h1
  obtain ⟨g', t', cs, f, p, q, e1, e2, e3, e4, _⟩ := laidVars_mem hl n _ hm'
  obtain rfl := Option.some.inj (e1.symm.trans hg)
  obtain rfl := Option.some.inj (e2.symm.trans ht)
  have := Lib.cells_of_tab (zs := xs) hT hE hc hct e4
  unfold Lib.TabIs
  rw [e3, ← this]
theorem TabIs.below {P : Program} {w w' : World} {n : String} {k : IntKind} {zs : List Int} (h : Lib.TabIs P w n k zs) {g : Nat} (hg : P.globalNamed n = some g) (hlt : g < w.heap.size) (hb : Below w.heap.size w w') : Lib.TabIs P w' n k zs := by
  unfold Lib.TabIs World.var? at *
  rw [hg] at h ⊢
  simp only [Option.bind_some] at h ⊢
  rw [hb.block g hlt]
  exact h
theorem cell_lt {w : World} {g i : Nat} {v : Value} (h : w.cell? ⟨g, i, none⟩ = some v) : g < w.heap.size := by
  rcases Nat.lt_or_ge g w.heap.size with h1 | h1
  · exact h1
  · simp [World.cell?, Array.getElem?_eq_none h1] at h
end Go.Proofs.YtmmpkkpmlaiapaaGreatDoor
