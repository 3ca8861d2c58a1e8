/- What listed tables of texts hold, cell by cell. No condition. -/
import Derived.Test.YtdaildpfkchbhaaDoorLaid
namespace Go.Proofs.YtdaildpfkchbhaaDoor
open Go.ChangeShapes Go.WideShapes Go.RowKit
set_option linter.unusedVariables false
/-- a table of texts, as it is listed -/
def strD (l : List ByteArray) : DataW Unit := .agg (l.map fun x => .lit (.string x.data.toList))
theorem str_cells {P : Program} {w : World} {l : List (String × DataW Unit)} (h : laidMetH P l w) {n : String} {xs : List ByteArray} (hm : (n, strD xs) ∈ l) {g t e m : Nat} (hg : P.globalNamed n = some g) (ht : (P.globals[g]?).map (·.type) = some t)
    (hT : P.underlying t = some (.array m e)) (hE : P.underlying e = some .string) (hc : P.cellsOf e = 1) : ∀ (i : Nat) v, (xs.map Value.string)[i]? = some v → w.cell? ⟨g, i, none⟩ = some v := by
  have h1 := (laidMetH_iff.1 h).1
  have hm' : (n, strD xs) ∈ l.filter fun x => x.2.handleName?.isNone := List.mem_filter.2 ⟨hm, rfl⟩
  obtain ⟨ps, hl, _, _⟩ := h1
  obtain ⟨g', t', cs, f, p, q, e1, e2, e3, e4, _⟩ := laidVars_mem hl n _ hm'
  obtain rfl := Option.some.inj (e1.symm.trans hg)
  obtain rfl := Option.some.inj (e2.symm.trans ht)
  obtain ⟨ys, m1, _, hx, _, hlen, hi⟩ := DataW.trod_array hT e4
  intro i v hv
  have hilt : i < xs.length := by
    have := (List.getElem?_eq_some_iff.1 hv).1
    simpa using this
  simp only [strD, Prod.mk.injEq, DataW.agg.injEq] at hx
  have hmap := hx.1
  have hly : ys.length = xs.length := by
    have := congrArg List.length hmap
    simpa using this.symm
  have him : i < m := by omega
  have h0 := hi i him
  rw [hc, Nat.mul_one] at h0
  have hiy : i < ys.length := by omega
  rw [List.getElem?_eq_getElem hiy] at h0
  obtain ⟨z, q1, q2, _⟩ := DataW.trod_string hE h0
  have hz : z = xs[i] := by
    have := congrArg (fun l => l[i]?) hmap
    simp only [List.getElem?_map, List.getElem?_eq_getElem hilt, List.getElem?_eq_getElem hiy, Option.map_some, q2, Option.some.injEq, DataW.lit.injEq, Lit.string.injEq] at this
    exact (ByteArray.ext (Array.ext' this)).symm
  subst hz
  have hcell := World.var?_cell e1 e3 i
  rw [hcell]
  have h5 : cs.toList[i]? = some (.string xs[i]) := by
    have := congrArg (fun l => l[0]?) q1
    simpa [List.getElem?_take, List.getElem?_drop] using this
  rw [List.getElem?_map, List.getElem?_eq_getElem hilt] at hv
  simp only [Option.map_some, Option.some.injEq] at hv
  rw [← hv]
  simpa using h5
/-- a variable of the program is an array of texts -/
def strAt (P : Program) (n : String) (g : Nat) : Bool :=
  match P.globalNamed n with
  | none => false
  | some g' => g'.beq g && match (P.globals[g]?).map (·.type) with
    | none => false
    | some t => match P.underlying t with
      | some (.array m e) => (match P.underlying e with | some .string => true | _ => false) && (P.cellsOf e).beq 1
      | _ => false
theorem strAt_cells {P : Program} {w : World} {l : List (String × DataW Unit)} (h : laidMetH P l w) {n : String} {xs : List ByteArray} (hm : (n, strD xs) ∈ l) {g : Nat} (hf : strAt P n g = true) :
    ∀ (i : Nat) v, (xs.map Value.string)[i]? = some v → w.cell? ⟨g, i, none⟩ = some v := by
  unfold strAt at hf
  split at hf
  · cases hf
  · rename_i g' hg
    rw [Bool.and_eq_true] at hf
    obtain ⟨h1, hf⟩ := hf
    obtain rfl := Nat.eq_of_beq_eq_true h1
    split at hf
    · cases hf
    · rename_i t ht
      split at hf
      · rename_i m e hT
        rw [Bool.and_eq_true] at hf
        obtain ⟨h2, h3⟩ := hf
        split at h2
        · rename_i hE
          exact str_cells h hm hg ht hT hE (Nat.eq_of_beq_eq_true h3)
        · cases h2
      · cases hf
end Go.Proofs.YtdaildpfkchbhaaDoor
