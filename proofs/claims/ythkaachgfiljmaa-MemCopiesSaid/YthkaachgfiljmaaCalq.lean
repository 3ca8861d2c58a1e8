/- Bytes and calls that came in as arguments. No condition. -/
import Derived.Test.YthkaachgfiljmaaCal
namespace Go.Proofs.Ythkaachgfiljmaa
open Go.RowKit
set_option linter.unusedVariables false
set_option maxRecDepth 20000
section
variable {H : Type} {enc : TypeId × Value → H} {w : World} {r : Reach} {b0 : Nat} {v : Value} {d : DataW H} {p : List MemPlace}
theorem open_bytesP (hv : Value.okWide Try.prog w r b0 27 v) (h : DataW.Trod enc Try.prog w 0 (fun _ => true) true 27 v d p) (hw : ∀ b ∈ d.weights Try.prog 27, b ≤ reachBytes) :
    ∃ xs : List Int, SlR w 1 ByteR v xs ∧ xs.length ≤ 140737488351232 := by
  obtain ⟨A, n, c, rfl, _⟩ := open_slice Try.underlying27 hv h
  have q : Rw enc Try.prog w 27 [.slice A n c] := Rw.of_trod h hw
  obtain ⟨A0, l0, p0, e0, g0, h0, s0, w0⟩ := q.slice Try.underlying27
  rw [Try.bytes_byte] at w0
  unfold reachBytes at w0
  rw [Try.cells_e_byte] at s0
  simp only [List.cons.injEq, and_true] at e0
  rw [e0]
  obtain ⟨x, rfl, n0⟩ := SlR.of (R := ByteR) (by decide) s0 g0 h0 (fun cs hc => open_byteR Try.underlying5 hc)
  exact ⟨x, n0, by omega⟩
theorem open_callsP (hv : Value.okWide Try.prog w r b0 34 v) (h : DataW.Trod enc Try.prog w 0 (fun _ => true) true 34 v d p) (hw : ∀ b ∈ d.weights Try.prog 34, b ≤ reachBytes) :
    ∃ xs : List CallD, SlR w 5 CallR v xs ∧ xs.length ≤ 140737488351232 := by
  obtain ⟨A, n, c, rfl, _⟩ := open_slice Try.underlying34 hv h
  have q : Rw enc Try.prog w 34 [.slice A n c] := Rw.of_trod h hw
  obtain ⟨A0, l0, p0, e0, g0, h0, s0, w0⟩ := q.slice Try.underlying34
  rw [Try.bytes_Call] at w0
  unfold reachBytes at w0
  rw [Try.cells_e_Call] at s0
  simp only [List.cons.injEq, and_true] at e0
  rw [e0]
  obtain ⟨x, rfl, n0⟩ := SlR.of (R := CallR) (by decide) s0 g0 h0 (fun cs hc => open_CallR hc)
  exact ⟨x, n0, by omega⟩
theorem open_callP (hv : Value.okWide Try.prog w r b0 36 v) (h : DataW.Trod enc Try.prog w 0 (fun _ => true) true 36 v d p) (hw : ∀ b ∈ d.weights Try.prog 36, b ≤ reachBytes) :
    ∃ x : CallD, v = .agg #[.int .i64 x.kind, .int .i64 x.base, .int .i64 x.off, .int .i64 x.n, .int .u64 x.v] ∧ In64 x.n ∧ InU64 x.v := by
  obtain ⟨cs, rfl, hr⟩ := open_structW Try.underlying36 hv h hw
  obtain ⟨x, e, h1, h2, h3, h4, h5⟩ := open_CallR hr
  refine ⟨x, ?_, h4, h5⟩
  congr 1
  exact Array.ext' (by simpa using e)
end
end Go.Proofs.Ythkaachgfiljmaa
