/- Numbers that came in as an argument, and a Bool. No condition. -/
import Derived.Test.YtcjfkbohgnopfaaKmL
import Derived.Test.YtcjfkbohgnopfaaRd
import Derived.Test.YtcjfkbohgnopfaaOpen
namespace Go.Proofs.Ytcjfkbohgnopfaa
open Go.RowKit
set_option linter.unusedVariables false
theorem spot_noneQ {w : World} {a : Addr} {v : Value} (h : w.cell? a = some v) : a.spot = none := by
  unfold World.cell? at h
  split at h
  · cases hs : a.spot with
    | none => rfl
    | some s => rw [hs] at h; simp at h
  · cases h
theorem ints_fun {H : Type} {enc : TypeId × Value → H} {P : Program} {W : World} {A : Option Addr} {len C : Nat} {T : TypeId} (h : SliceAt W A len C (Rd enc P W T)) (hc : C = 1) (ht : P.underlying T = some (.int .i64)) :
    ∃ xf : Nat → Int, ∀ k, k < len → ∀ w', Below W.heap.size W w' → ∃ b o : Nat, A = some ⟨b, o, none⟩ ∧ w'.cell? ⟨b, o + k, none⟩ = some (.int .i64 (xf k)) ∧ In64 (xf k) := by
  subst hc
  refine ⟨fun k => valI (A.bind fun ad => W.cell? (ad.add k)), fun k hk w' hb => ?_⟩
  obtain ⟨ad0, u0, h1, h2, _⟩ := h.one (Below.refl W.heap.size W) (show 0 < len by omega)
  have hs : ad0.spot = none := spot_noneQ (by simpa [Addr.add] using h2)
  obtain ⟨b, o, s⟩ := ad0
  simp only at hs
  subst hs
  obtain ⟨ad, u, g1, g2, g3⟩ := h.one hb hk
  obtain ⟨ad', u', k1, k2, k3⟩ := h.one (Below.refl W.heap.size W) hk
  rw [h1] at g1 k1
  obtain rfl := Option.some.inj g1
  obtain rfl := Option.some.inj k1
  rw [hb.cell (World.block_lt_of_cell? W _ k2), k2] at g2
  obtain rfl := Option.some.inj g2
  obtain ⟨x, e, hw⟩ := g3.int ht
  simp only [List.cons.injEq, and_true] at e
  subst e
  have e2 : (Addr.mk b o none).add k = ⟨b, o + k, none⟩ := Addr.add_lit b o k
  have hv : valI (A.bind fun ad => W.cell? (ad.add k)) = x := by rw [h1]; show valI (W.cell? _) = x; rw [k2]; rfl
  refine ⟨b, o, h1, ?_, ?_⟩
  · show w'.cell? _ = some (.int .i64 (valI (A.bind fun ad => W.cell? (ad.add k))))
    rw [hv, ← e2, hb.cell (World.block_lt_of_cell? W _ k2), k2]
  · show In64 (valI (A.bind fun ad => W.cell? (ad.add k)))
    rw [hv]
    exact in64_of hw
end Go.Proofs.Ytcjfkbohgnopfaa
