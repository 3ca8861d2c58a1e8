/- Registers by their names: which one a text names. No condition. -/
import Derived.Test.YtekjnpoakacpkaaDoorRgC
namespace Go.Proofs.YtekjnpoakacpkaaDoor
open Go.RowKit
set_option linter.unusedVariables false
/-- name number t: register t / 4, of 8 >> (t % 4) bytes -/
def nmT (t : Nat) : List UInt8 := regN (t / 4) (3 - t % 4)
def HasNo (l : List UInt8) (T : Nat) : Prop := ∀ t, t < T → nmT t ≠ l
def szT (t : Nat) : Nat := 8 / 2 ^ (t % 4)
def RegA (l : List UInt8) (r sz : Int) : Prop := (∃ t, t < 64 ∧ nmT t = l ∧ r = (t / 4 : Nat) ∧ sz = (szT t : Nat)) ∨ (HasNo l 64 ∧ r = -1 ∧ sz = 0)
def RegS (s : List UInt8) (r sz : Int) : Prop := (∃ l, s = 37 :: l ∧ RegA l r sz) ∨ ((∀ l, s ≠ 37 :: l) ∧ r = -1 ∧ sz = 0)
theorem nmT_inj {t u : Nat} (ht : t < 64) (hu : u < 64) (h : nmT t = nmT u) : t = u := by
  have e := same (r := t / 4) (s := u / 4) (k := 3 - t % 4) (m := 3 - u % 4) (by omega) (by omega) (by omega) (by omega)
  unfold nmT at h
  rw [h] at e
  simp at e
  omega
theorem HasNo.more {l : List UInt8} {T : Nat} (h : HasNo l T) (hn : nmT T ≠ l) : HasNo l (T + 1) := fun t ht => by
  by_cases e : t = T
  · subst e; exact hn
  · exact h t (by omega)
theorem want_nm {n j : Nat} (hn : n < 16) (hj : j < 4) : wantF (n : Int) ((8 / 2 ^ j : Nat) : Int) = nmT (n * 4 + j) := by
  unfold wantF nmT
  rw [if_pos (by omega), Int.toNat_natCast, show (n * 4 + j) / 4 = n by omega, show (n * 4 + j) % 4 = j by omega]
  have hc : j = 0 ∨ j = 1 ∨ j = 2 ∨ j = 3 := by omega
  rcases hc with e | e | e | e <;> subst e <;> rfl
theorem reg_self {t : Nat} (ht : t < 64) {r sz : Int} (h : RegS (37 :: nmT t) r sz) : r = (t / 4 : Nat) ∧ sz = (szT t : Nat) := by
  rcases h with ⟨l, e, h⟩ | ⟨h, _⟩
  · injection e with _ e
    subst e
    rcases h with ⟨u, hu, e2, h1, h2⟩ | ⟨h, _⟩
    · obtain rfl := nmT_inj hu ht e2
      exact ⟨h1, h2⟩
    · exact absurd rfl (h t ht)
  · exact absurd rfl (h _)
theorem reg_none {s : List UInt8} (hs : ∀ t, t < 64 → s ≠ 37 :: nmT t) {r sz : Int} (h : RegS s r sz) : r = -1 ∧ sz = 0 := by
  rcases h with ⟨l, rfl, h⟩ | ⟨_, h⟩
  · rcases h with ⟨u, hu, rfl, _⟩ | ⟨_, h⟩
    · exact absurd rfl (hs u hu)
    · exact h
  · exact h
end Go.Proofs.YtekjnpoakacpkaaDoor
