/- An rtl program that came in as an argument. No condition. -/
import Derived.Test.YtemllghghpphmaaRz
namespace Go.Proofs.Ytemllghghpphmaa
open Go.RowKit
set_option linter.unusedVariables false
set_option maxRecDepth 20000
theorem open_prog {H : Type} {enc : TypeId × Value → H} {w : World} {r : Reach} {b0 : Nat} {v : Value} {d : DataW H} {p : List MemPlace} (hv : Value.okWide Try.prog w r b0 54 v) (h : DataW.Trod enc Try.prog w 0 (fun _ => true) true 54 v d p) (hw : ∀ b ∈ d.weights Try.prog 54, b ≤ reachBytes) :
    ∃ (x : ProgD) (vf vg : Value), v = .agg #[vf, vg, .int .i64 x.data, .int .i64 x.main] ∧ In w x vf vg := by
  obtain ⟨cs, rfl, hr⟩ := open_structW Try.underlying54 hv h hw
  obtain ⟨x, vf, vg, e, h1, h2, h3, h4, h5, h6⟩ := open_ProgR hr
  refine ⟨x, vf, vg, ?_, ⟨h1, h2, h3, h4, h5, h6⟩⟩
  congr 1
  exact Array.ext' (by simpa using e)
end Go.Proofs.Ytemllghghpphmaa
