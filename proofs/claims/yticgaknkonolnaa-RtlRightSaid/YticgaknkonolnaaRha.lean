/- Plain: sums of parts; the walk of the reference's Right, its head. No condition. -/
import Derived.Test.YticgaknkonolnaaRi
import Derived.Test.YticgaknkonolnaaPi
import Derived.Test.YticgaknkonolnaaLt
namespace Go.Proofs.Yticgaknkonolnaa
open Go.RowKit
set_option linter.unusedVariables false
set_option maxHeartbeats 4000000
/-- the bytes of a part that may be, whatever is left -/
def partV (nf size : Int) (y : PartD) : Option Int :=
  if y.kind = 0 then some y.data.length
  else if y.kind = 1 then (if 0 ≤ y.n ∧ y.n < nf then some 8 else none)
  else if y.kind = 2 ∨ y.kind = 3 then (if 0 ≤ y.n ∧ y.n ≤ size then some y.n else none)
  else none
def sumV (nf size : Int) : List PartD → Option Int
  | [] => some 0
  | y :: l => (partV nf size y).bind fun n => (sumV nf size l).map (n + ·)
theorem partV_nn {nf size : Int} {y : PartD} {n : Int} (h : partV nf size y = some n) : 0 ≤ n := by
  unfold partV at h
  split at h
  · simp only [Option.some.injEq] at h; omega
  · split at h
    · split at h
      · simp only [Option.some.injEq] at h; omega
      · cases h
    · split at h
      · split at h
        · simp only [Option.some.injEq] at h; omega
        · cases h
      · cases h
theorem sumV_nn {nf size : Int} : ∀ {l : List PartD} {n : Int}, sumV nf size l = some n → 0 ≤ n
  | [], n, h => by simp only [sumV, Option.some.injEq] at h; omega
  | y :: l, n, h => by
    simp only [sumV, Option.bind_eq_some_iff, Option.map_eq_some_iff] at h
    obtain ⟨a, h1, b, h2, h3⟩ := h
    have := partV_nn h1
    have := sumV_nn h2
    omega
theorem sumV_snoc {nf size : Int} (y : PartD) : ∀ (l : List PartD), sumV nf size (l ++ [y]) = (sumV nf size l).bind fun s => (partV nf size y).map (s + ·)
  | [] => by
    simp only [List.nil_append, sumV]
    cases partV nf size y <;> simp
  | z :: l => by
    simp only [List.cons_append, sumV, sumV_snoc y l]
    cases partV nf size z with
    | none => rfl
    | some a =>
      cases sumV nf size l with
      | none => rfl
      | some b =>
        cases partV nf size y with
        | none => rfl
        | some c => simp; omega
theorem sumV_take {nf size : Int} {l : List PartD} {q : Nat} {y : PartD} (h : l[q]? = some y) : sumV nf size (l.take (q + 1)) = (sumV nf size (l.take q)).bind fun s => (partV nf size y).map (s + ·) := by
  rw [List.take_add_one, h]; exact sumV_snoc y _
theorem sumV_no {nf size : Int} : ∀ {l : List PartD} {k : Nat}, sumV nf size (l.take k) = none → sumV nf size l = none
  | [], k, h => by simpa using h
  | y :: l, 0, h => by simp [sumV] at h
  | y :: l, k + 1, h => by
    simp only [List.take_succ_cons, sumV] at h ⊢
    cases hp : partV nf size y with
    | none => rfl
    | some a =>
      rw [hp] at h
      simp only [Option.bind_some, Option.map_eq_none_iff] at h ⊢
      exact sumV_no h
theorem stepP_of {nf size left : Int} (hle : left ≤ size) (y : PartD) : stepP nf left y = (partV nf size y).bind fun n => if n ≤ left then some (left - n) else none := by
  unfold stepP partV
  by_cases h0 : y.kind = 0
  · simp [h0]
  · by_cases h1 : y.kind = 1
    · by_cases h2 : 0 ≤ y.n ∧ y.n < nf
      · simp [h1, h2]
      · have : ¬ (0 ≤ y.n ∧ y.n < nf ∧ 8 ≤ left) := fun h => h2 ⟨h.1, h.2.1⟩
        simp only [h1, if_neg this, if_neg h2]
        simp
    · by_cases h3 : y.kind = 2 ∨ y.kind = 3
      · simp only [if_neg h0, if_neg h1, if_pos h3]
        by_cases h4 : 0 ≤ y.n ∧ y.n ≤ size
        · rw [if_pos h4]
          by_cases h5 : y.n ≤ left
          · rw [if_pos ⟨h4.1, h5⟩]; simp [h5]
          · rw [if_neg (fun h => h5 h.2)]; simp [h5]
        · rw [if_neg h4, if_neg (fun h => h4 ⟨h.1, by omega⟩)]; rfl
      · simp only [if_neg h0, if_neg h1, if_neg h3]; rfl
theorem fold_sum {nf size : Int} : ∀ (l : List PartD) (left : Int), left ≤ size → 0 ≤ left → foldP nf (some left) l = (sumV nf size l).bind fun s => if s ≤ left then some (left - s) else none
  | [], left, _, h0 => by simp [foldP, sumV, h0]
  | y :: l, left, hle, h0 => by
    have e : foldP nf (some left) (y :: l) = foldP nf (stepP nf left y) l := rfl
    rw [e, stepP_of hle]
    simp only [sumV]
    cases hp : partV nf size y with
    | none => simp [foldP_none]
    | some n =>
      have hn := partV_nn hp
      simp only [Option.bind_some]
      by_cases h1 : n ≤ left
      · rw [if_pos h1, fold_sum (nf := nf) (size := size) l (left - n) (by omega) (by omega)]
        cases hs : sumV nf size l with
        | none => rfl
        | some s =>
          simp only [Option.bind_some, Option.map_some]
          by_cases h2 : s ≤ left - n
          · rw [if_pos h2, if_pos (show n + s ≤ left by omega), show left - n - s = left - (n + s) by omega]
          · rw [if_neg h2, if_neg (show ¬ n + s ≤ left by omega)]
      · rw [if_neg h1, foldP_none]
        cases hs : sumV nf size l with
        | none => rfl
        | some s =>
          have := sumV_nn hs
          simp only [Option.bind_some, Option.map_some]
          rw [if_neg (by omega)]
/-- a global is placed just if its sum is its size, and it lies in the data -/
theorem placed_sum {data nf : Int} {g : GlobD} (h0 : 0 ≤ g.size) : placedB data nf g = decide (0 ≤ g.at_ ∧ g.size ≤ data ∧ g.at_ + g.size ≤ data ∧ sumV nf g.size g.parts = some g.size) := by
  unfold placedB
  rw [decide_eq_decide, fold_sum g.parts g.size (Int.le_refl _) h0]
  constructor
  · rintro ⟨a1, a2, a3, a4, a5⟩
    refine ⟨a1, a3, by omega, ?_⟩
    cases hs : sumV nf g.size g.parts with
    | none => rw [hs] at a5; cases a5
    | some s =>
      rw [hs] at a5
      simp only [Option.bind_some] at a5
      split at a5
      · simp only [Option.some.injEq] at a5; congr 1; omega
      · cases a5
  · rintro ⟨a1, a2, a3, a4⟩
    refine ⟨a1, h0, a2, by omega, ?_⟩
    rw [a4]; simp
theorem placed_neg {data nf : Int} {g : GlobD} (h0 : g.size < 0) : placedB data nf g = false := placedB_no (fun h => by omega)
end Go.Proofs.Yticgaknkonolnaa
