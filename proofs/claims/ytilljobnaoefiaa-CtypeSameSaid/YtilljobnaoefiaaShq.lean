/- A shape of a type that came in as an argument. No condition. -/
import Derived.Test.YtilljobnaoefiaaShp
namespace Go.Proofs.Ytilljobnaoefiaa
open Go.RowKit
set_option linter.unusedVariables false
set_option maxRecDepth 20000
theorem open_shape {H : Type} {enc : TypeId × Value → H} {w : World} {r : Reach} {b0 : Nat} {v : Value} {d : DataW H} {p : List MemPlace} (hv : Value.okWide Try.prog w r b0 24 v) (h : DataW.Trod enc Try.prog w 0 (fun _ => true) true 24 v d p) (hw : ∀ b ∈ d.weights Try.prog 24, b ≤ reachBytes) :
    ∃ (x : ShapeD) (vs : Value), v = .agg #[.int .i64 x.int, vs] ∧ SlR w 2 PairR vs x.steps := by
  obtain ⟨cs, rfl, hr⟩ := open_structW Try.underlying24 hv h hw
  obtain ⟨x, vs, e, h1, h2, h3⟩ := open_ShapeR hr
  refine ⟨x, vs, ?_, h2⟩
  congr 1
  exact Array.ext' (by simpa using e)
end Go.Proofs.Ytilljobnaoefiaa
