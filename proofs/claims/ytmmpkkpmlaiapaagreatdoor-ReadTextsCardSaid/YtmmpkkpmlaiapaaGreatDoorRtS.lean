/- What was read, as an argument of Print. No condition. -/
import Derived.Test.YtmmpkkpmlaiapaaGreatDoorQi
import Derived.Test.YtmmpkkpmlaiapaaGreatDoorRpP
namespace Go.Proofs.YtmmpkkpmlaiapaaGreatDoor
open Go.RowKit
set_option linter.unusedVariables false
theorem flatC_at {α : Type} {C : Nat} {f : α → List Value} : ∀ (xs : List α) (i k : Nat) (x : α), (∀ y ∈ xs, (f y).length = C) → xs[i]? = some x → k < C → (xs.map f).flatten[i * C + k]? = (f x)[k]?
  | [], i, k, x, _, h, _ => by simp at h
  | y :: xs, 0, k, x, hl, h, hk => by
    simp only [List.getElem?_cons_zero, Option.some.injEq] at h
    subst h
    rw [Nat.zero_mul, Nat.zero_add, List.map_cons, List.flatten_cons, List.getElem?_append_left (by rw [hl y List.mem_cons_self]; exact hk)]
  | y :: xs, i + 1, k, x, hl, h, hk => by
    simp only [List.getElem?_cons_succ] at h
    have h2 := flatC_at xs i k x (fun z hz => hl z (List.mem_cons_of_mem _ hz)) h hk
    have hy := hl y List.mem_cons_self
    rw [List.map_cons, List.flatten_cons, List.getElem?_append_right (by rw [hy, Nat.add_mul]; omega), hy, show (i + 1) * C + k - C = i * C + k by rw [Nat.add_mul]; omega]
    exact h2
theorem own_SlR {α β : Type} {w : World} {B C : Nat} {T : TypeId} {v : Value} {xs : List α} {f : α → List Value} {g : α → β} {R : List Value → β → Prop} (h : w.ownsRow B T C v xs.length (xs.map f).flatten) (hf : ∀ x ∈ xs, (f x).length = C ∧ R (f x) (g x)) : SlR w C R v (xs.map g) := by
  by_cases h0 : xs.length = 0
  · have hx : xs = [] := List.length_eq_zero_iff.1 h0
    subst hx
    rcases h.2 with ⟨rfl, e⟩ | ⟨g', cap, cur, rfl, h1, h2, h3, h4, _⟩
    · exact ⟨none, 0, by simp, by simp, by decide, fun i x hx => by simp at hx⟩
    · exact ⟨some ⟨g', 0, none⟩, cap, by simp, by simp, h4, fun i x hx => by simp at hx⟩
  · obtain ⟨gg, cap, e, h1, h2, h3, h4⟩ := own_form h (by omega)
    refine ⟨some ⟨gg, 0, none⟩, cap, by rw [e]; simp, by simpa using h1, h2, fun i y hy => ?_⟩
    rw [List.getElem?_map] at hy
    cases hx : xs[i]? with
    | none => rw [hx] at hy; cases hy
    | some x =>
      rw [hx] at hy
      cases hy
      have hm := List.mem_of_getElem? hx
      refine ⟨gg, 0, f x, rfl, (hf x hm).1, fun j hj => ?_, (hf x hm).2⟩
      have hi := (List.getElem?_eq_some_iff.1 hx).1
      rw [Nat.zero_add]
      subst e
      rw [World.ownsRow.cellAt h (i * C + j) (by
        have : (i + 1) * C ≤ xs.length * C := Nat.mul_le_mul_right C hi
        rw [Nat.add_mul] at this
        omega)]
      exact flatC_at xs i j x (fun z hz => (hf z hz).1) hx hj
theorem flat_one : ∀ (bs : List Int), (bs.map fun x => [Value.int .u8 x]).flatten = bs.map (Value.int .u8)
  | [] => rfl
  | b :: bs => by rw [List.map_cons, List.flatten_cons, flat_one bs]; rfl
theorem rowU_SlR {w : World} {B : Nat} {v : Value} {bs : List Int} (h : RowU w B v bs) (hb : Bytes255 bs) : SlR w 1 ByteR v bs := by
  have h2 : w.ownsRow B 5 1 v bs.length (bs.map fun x => [Value.int .u8 x]).flatten := by
    rw [flat_one]; exact h
  have := own_SlR (g := fun x => x) (R := ByteR) h2 (fun x hx => by
    obtain ⟨i, hi, rfl⟩ := List.mem_iff_getElem.1 hx
    have := hb i bs[i] (List.getElem?_eq_getElem hi)
    exact ⟨rfl, rfl, this.1, this.2⟩)
  simpa using this
theorem rowD_SlR {w : World} {B : Nat} {v : Value} {dvs : List (XDatumD × Value)} (h : RowD w B v dvs) (hu : ∀ q ∈ dvs, RowU w B q.2 q.1.data) (hg : ∀ d ∈ dvs.map (·.1), DGood d) (hl : ∀ d ∈ dvs.map (·.1), d.data.length ≤ 20000) : SlR w 4 (XDatumR w) v (dvs.map (·.1)) :=
  own_SlR h (fun q hq => by
    have hm : q.1 ∈ dvs.map (·.1) := List.mem_map_of_mem hq
    have h1 := hg q.1 hm
    refine ⟨rfl, q.2, rfl, h1.k64, by have := h1.name; unfold maxLen; omega, rowU_SlR (hu q hq) h1.bytes, by have := hl q.1 hm; omega, h1.n64⟩)
theorem rowI_SlR {w : World} {B : Nat} {v : Value} {cs : List XItemD} (h : RowI w B v cs) (hg : ∀ c ∈ cs, CGood c) : SlR w 9 XItemR v cs := by
  have := own_SlR (g := fun x => x) (R := XItemR) h (fun c hc => by
    obtain ⟨h1, ⟨i1, i2, i3, i4, i5, i6, i7⟩, h3⟩ := hg c hc
    exact ⟨rfl, rfl, by unfold maxLen; omega, i1, i2, i3, i4, i5, i6, by unfold maxLen; omega⟩)
  simpa using this
end Go.Proofs.YtmmpkkpmlaiapaaGreatDoor
