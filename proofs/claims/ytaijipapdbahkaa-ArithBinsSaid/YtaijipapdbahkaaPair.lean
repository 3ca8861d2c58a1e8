/- An array of two ints by value, read and read again. No condition. -/
import Derived.Test.YtaijipapdbahkaaPost
import Derived.OpenShut
namespace Go.Proofs.Ytaijipapdbahkaa
open Go.RowKit Go.ChangeShapes Go.WideShapes Go.ChangeAt
set_option linter.unusedVariables false
/-! An array of two ints by value, read and read again. -/
section
variable {H : Type} {enc : TypeId × Value → H} {P : Program} {w : World} {base : Nat} {spare : Nat → Bool} {held : Bool}
theorem open_pair {T E : TypeId} {v : Value} {d : DataW H} {p : List MemPlace} {r : Reach} {b0 : Nat} (hT : P.underlying T = some (.array 2 E)) (hE : P.underlying E = some (.int .i64)) (hC : P.cellsOf T = 2) (hc : P.cellsOf E = 1)
    (hv : Value.okWide P w r b0 T v) (h : DataW.Trod enc P w base spare held T v d p) :
    ∃ a b : Int, v = .agg #[.int .i64 a, .int .i64 b] ∧ d = .agg [.lit (.int .i64 a), .lit (.int .i64 b)] ∧ p = [] ∧ (Lit.int .i64 a).wf = true ∧ (Lit.int .i64 b).wf = true := by
  simp only [Value.okWide, hT] at hv
  obtain ⟨cs, rfl, hsz, _⟩ := hv
  rw [hC] at hsz
  obtain ⟨fuel, hf⟩ := h
  obtain ⟨xs, m, _, hx, _, hl, hi⟩ := DataW.trod_array hT hf
  obtain ⟨c0, c1, rfl⟩ : ∃ c0 c1, cs = #[c0, c1] := by
    rcases cs with ⟨l⟩
    match l, hsz with
    | [c0, c1], _ => exact ⟨c0, c1, rfl⟩
  obtain ⟨x0, x1, rfl⟩ : ∃ x0 x1, xs = [x0, x1] := by
    match xs, hl with
    | [x0, x1], _ => exact ⟨x0, x1, rfl⟩
  have h0 := hi 0 (by decide)
  have h1 := hi 1 (by decide)
  simp only [hc, Value.cells] at h0 h1
  obtain ⟨a, ha, hxa, wa⟩ := DataW.trod_int hE (by simpa using h0)
  obtain ⟨b, hb, hxb, wb⟩ := DataW.trod_int hE (by simpa using h1)
  simp at ha hb
  subst ha hb hxa hxb
  simp only [Prod.mk.injEq] at hx
  exact ⟨a, b, rfl, by simpa using hx.1, by simpa using hx.2, wa, wb⟩
theorem shut_pair {T E : TypeId} {a b : Int} (hT : P.underlying T = some (.array 2 E)) (hE : P.underlying E = some (.int .i64)) (hC : P.cellsOf T = 2) (hc : P.cellsOf E = 1)
    (wa : (Lit.int .i64 a).wf = true) (wb : (Lit.int .i64 b).wf = true) :
    DataW.Trod enc P w base spare held T (.agg #[.int .i64 a, .int .i64 b]) (.agg [.lit (.int .i64 a), .lit (.int .i64 b)]) [] := by
  refine ⟨2, ?_⟩
  simp [DataW.trod, hT, hE, hC, hc, Value.cells, List.range_succ, wa, wb]
end
end Go.Proofs.Ytaijipapdbahkaa
