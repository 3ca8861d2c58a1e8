/- Plain facts: the function that AllocFew builds. No condition. -/
import Derived.Test.YtegnaeinpacafaaGr5
namespace Go.Proofs.Ytegnaeinpacafaa
open Go.RowKit
set_option linter.unusedVariables false
def fewI0 : InsD := ⟨1, 0, ⟨-1, 1⟩, ⟨0, 0⟩, 0, false, false, 0, 0, []⟩
def fewI (i : Nat) : InsD := ⟨3, (i : Int) + 1, ⟨(i : Nat), 0⟩, ⟨-1, 1⟩, 0, false, false, 0, 0, []⟩
def fewL : Nat → List InsD
  | 0 => [fewI0]
  | k + 1 => fewL k ++ [fewI k]
def fewT (n : Nat) : TermD := ⟨3, 0, ⟨(n : Nat), 0⟩, ⟨0, 0⟩, 0, 0⟩
def fewF (nm : ByteArray) (n : Nat) : FuncD := ⟨nm, 0, [], (n : Int) + 1, [], [⟨fewL n, fewT n⟩]⟩
theorem fewL_len : ∀ k, (fewL k).length = k + 1
  | 0 => rfl
  | k + 1 => by simp [fewL, fewL_len k]
theorem fewL_mem : ∀ k x, x ∈ fewL k → x = fewI0 ∨ ∃ i, i < k ∧ x = fewI i
  | 0, x, h => Or.inl (by simpa [fewL] using h)
  | k + 1, x, h => by
    simp only [fewL, List.mem_append, List.mem_singleton] at h
    rcases h with h | h
    · rcases fewL_mem k x h with h1 | ⟨i, h1, h2⟩
      · exact Or.inl h1
      · exact Or.inr ⟨i, by omega, h2⟩
    · exact Or.inr ⟨k, by omega, h⟩
theorem few_ok (nm : ByteArray) (n : Nat) (hn : n ≤ 60) : FnOk (fewF nm n) (n + 1) 0 where
  regs := by show (n : Int) + 1 = ((n + 1 : Nat) : Int); omega
  par := rfl
  hPR := by omega
  h0n := by show 0 < [(_ : BlockD)].length; simp
  hn := by show [(_ : BlockD)].length ≤ 2000; simp
  hR := by omega
  hnx := fun i k hi hk => by
    have h0 : i = 0 := by
      have : i < 1 := hi
      omega
    subst h0
    rw [nxF_of (b := ⟨fewL n, fewT n⟩) rfl] at hk
    simp [nextT, fewT] at hk
  hslim := fun b hb x hx => by
    have hb' : b = ⟨fewL n, fewT n⟩ := by simpa [fewF] using hb
    subst hb'
    rcases fewL_mem n x hx with rfl | ⟨i, _, rfl⟩
    · simp [fewI0]
    · simp [fewI]
  hil := fun b hb => by
    have hb' : b = ⟨fewL n, fewT n⟩ := by simpa [fewF] using hb
    subst hb'
    show (fewL n).length ≤ 2000
    rw [fewL_len]; omega
  hdst := fun b hb x hx => by
    have hb' : b = ⟨fewL n, fewT n⟩ := by simpa [fewF] using hb
    subst hb'
    rcases fewL_mem n x hx with rfl | ⟨i, hi, rfl⟩
    · refine ⟨⟨by show (-1 : Int) ≤ 0; omega, by show (0 : Int) < ((n + 1 : Nat) : Int); omega⟩, fun a ha => ?_⟩
      have : a = ⟨-1, 1⟩ := by simpa [readsD, fewI0] using ha
      subst this
      exact ⟨by show (-1 : Int) ≤ -1; omega, by show (-1 : Int) < ((n + 1 : Nat) : Int); omega⟩
    · refine ⟨⟨by show (-1 : Int) ≤ (i : Int) + 1; omega, by show (i : Int) + 1 < ((n + 1 : Nat) : Int); omega⟩, fun a ha => ?_⟩
      have : a = ⟨(i : Nat), 0⟩ ∨ a = ⟨-1, 1⟩ := by simpa [readsD, fewI] using ha
      rcases this with rfl | rfl
      · exact ⟨by show (-1 : Int) ≤ (i : Int); omega, by show (i : Int) < ((n + 1 : Nat) : Int); omega⟩
      · exact ⟨by show (-1 : Int) ≤ -1; omega, by show (-1 : Int) < ((n + 1 : Nat) : Int); omega⟩
  htr := fun b hb a ha => by
    have hb' : b = ⟨fewL n, fewT n⟩ := by simpa [fewF] using hb
    subst hb'
    have : a = ⟨(n : Nat), 0⟩ := by simpa [readsT, fewT] using ha
    subst this
    exact ⟨by show (-1 : Int) ≤ (n : Int); omega, by show (n : Int) < ((n + 1 : Nat) : Int); omega⟩
  hcp := fun b hb x hx h2 => by
    have hb' : b = ⟨fewL n, fewT n⟩ := by simpa [fewF] using hb
    subst hb'
    rcases fewL_mem n x hx with rfl | ⟨i, _, rfl⟩
    · cases h2
    · cases h2
end Go.Proofs.Ytegnaeinpacafaa
