/- An array of three ints by value, read. No condition. -/
import Derived.Test.YtpkbkmppkgeklaaDoorLib
namespace Go.Proofs.YtpkbkmppkgeklaaDoor
open Go.RowKit
set_option linter.unusedVariables false
theorem open_trip {H : Type} {enc : TypeId × Value → H} {P : Program} {w : World} {base : Nat} {spare : Nat → Bool} {held : Bool} {T E : TypeId} {v : Value} {d : DataW H} {p : List MemPlace} {r : Reach} {b0 : Nat} (hT : P.underlying T = some (.array 3 E)) (hE : P.underlying E = some (.int .i64)) (hC : P.cellsOf T = 3) (hc : P.cellsOf E = 1)
    (hv : Value.okWide P w r b0 T v) (h : DataW.Trod enc P w base spare held T v d p) :
    ∃ a b c : Int, v = .agg #[.int .i64 a, .int .i64 b, .int .i64 c] ∧ (Lit.int .i64 a).wf = true ∧ (Lit.int .i64 b).wf = true ∧ (Lit.int .i64 c).wf = true := by
  simp only [Value.okWide, hT] at hv
  obtain ⟨cs, rfl, hsz, _⟩ := hv
  rw [hC] at hsz
  obtain ⟨fuel, hf⟩ := h
  obtain ⟨xs, m, _, hx, _, hl, hi⟩ := DataW.trod_array hT hf
  obtain ⟨c0, c1, c2, rfl⟩ : ∃ c0 c1 c2, cs = #[c0, c1, c2] := by
    rcases cs with ⟨l⟩
    match l, hsz with
    | [c0, c1, c2], _ => exact ⟨c0, c1, c2, rfl⟩
  obtain ⟨x0, x1, x2, rfl⟩ : ∃ x0 x1 x2, xs = [x0, x1, x2] := by
    match xs, hl with
    | [x0, x1, x2], _ => exact ⟨x0, x1, x2, rfl⟩
  have h0 := hi 0 (by decide)
  have h1 := hi 1 (by decide)
  have h2 := hi 2 (by decide)
  simp only [hc, Value.cells] at h0 h1 h2
  obtain ⟨a, ha, hxa, wa⟩ := DataW.trod_int hE (by simpa using h0)
  obtain ⟨b, hb, hxb, wb⟩ := DataW.trod_int hE (by simpa using h1)
  obtain ⟨c, hcc, hxc, wc⟩ := DataW.trod_int hE (by simpa using h2)
  simp at ha hb hcc
  subst ha hb hcc
  exact ⟨a, b, c, rfl, wa, wb, wc⟩
end Go.Proofs.YtpkbkmppkgeklaaDoor
