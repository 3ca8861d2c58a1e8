/- Records and a shape that came in as arguments. No condition. -/
import Derived.Test.YtpcfibnnboenhaaRcd
namespace Go.Proofs.Ytpcfibnnboenhaa
open Go.RowKit
set_option linter.unusedVariables false
set_option maxRecDepth 20000
section
variable {H : Type} {enc : TypeId × Value → H} {w : World} {r : Reach} {b0 : Nat} {v : Value} {d : DataW H} {p : List MemPlace}
theorem open_recsP (hv : Value.okWide Try.prog w r b0 22 v) (h : DataW.Trod enc Try.prog w 0 (fun _ => true) true 22 v d p) (hw : ∀ b ∈ d.weights Try.prog 22, b ≤ reachBytes) :
    ∃ xs : List RecD, SlR w 3 (RecR w) v xs := by
  obtain ⟨A, n, c, rfl, _⟩ := open_slice Try.underlying22 hv h
  have q : Rw enc Try.prog w 22 [.slice A n c] := Rw.of_trod h hw
  obtain ⟨A0, l0, p0, e0, g0, h0, s0, w0⟩ := q.slice Try.underlying22
  rw [Try.cells_s_Rec] at s0
  simp only [List.cons.injEq, and_true] at e0
  rw [e0]
  obtain ⟨x, rfl, n0⟩ := SlR.of (R := RecR w) (by decide) s0 g0 h0 (fun cs hc => open_RecR hc)
  exact ⟨x, n0⟩
theorem open_shape (hv : Value.okWide Try.prog w r b0 25 v) (h : DataW.Trod enc Try.prog w 0 (fun _ => true) true 25 v d p) (hw : ∀ b ∈ d.weights Try.prog 25, b ≤ reachBytes) :
    ∃ (x : ShapeD) (vs : Value), v = .agg #[.int .i64 x.int, vs] ∧ SlR w 2 PairR vs x.steps := by
  obtain ⟨cs, rfl, hr⟩ := open_structW Try.underlying25 hv h hw
  obtain ⟨x, vs, e, h1, h2, h3⟩ := open_ShapeR hr
  refine ⟨x, vs, ?_, h2⟩
  congr 1
  exact Array.ext' (by simpa using e)
end
end Go.Proofs.Ytpcfibnnboenhaa
