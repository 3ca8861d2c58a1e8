/- Plain: which texts may be labels' names. No condition. -/
import Derived.Test.YtpkbkmppkgeklaaDoorLib
import Derived.Test.YtpkbkmppkgeklaaDoorChecked
namespace Go.Proofs.YtpkbkmppkgeklaaDoor
open Go.RowKit
set_option linter.unusedVariables false
def wordN (n : Nat) : Bool := decide (97 ≤ n ∧ n ≤ 122) || decide (65 ≤ n ∧ n ≤ 90) || n == 95 || n == 46
def digN (n : Nat) : Bool := decide (48 ≤ n ∧ n ≤ 57)
def okAt (i n : Nat) : Bool := wordN n || (decide (0 < i) && digN n)
def okTo (s : ByteArray) (k : Nat) : Prop := ∀ j, (h : j < s.size) → j < k → okAt j (s[j]'h).toNat = true
instance (s : ByteArray) (k : Nat) : Decidable (okTo s k) := by unfold okTo; exact inferInstance
def namedB (s : ByteArray) : Bool := decide (0 < s.size ∧ s.size ≤ 60) && decide (okTo s s.size)
theorem okTo_succ {s : ByteArray} {k : Nat} (h : okTo s k) (hk : k < s.size) (ho : okAt k (s[k]'hk).toNat = true) : okTo s (k + 1) := fun j hj hl => by
  by_cases e : j = k
  · subst e; exact ho
  · exact h j hj (by omega)
theorem okTo_not {s : ByteArray} {k : Nat} (hk : k < s.size) (ho : okAt k (s[k]'hk).toNat = false) : ¬ okTo s s.size := fun h => by
  have := h k hk hk
  rw [ho] at this; cases this
theorem named_no {s : ByteArray} {k : Nat} (hk : k < s.size) (ho : okAt k (s[k]'hk).toNat = false) : namedB s = false := by
  unfold namedB
  rw [decide_eq_false (okTo_not hk ho), Bool.and_false]
theorem named_long {s : ByteArray} (h : ¬ (0 < s.size ∧ s.size ≤ 60)) : namedB s = false := by unfold namedB; rw [decide_eq_false h, Bool.false_and]
theorem named_yes {s : ByteArray} (h : 0 < s.size ∧ s.size ≤ 60) (ho : okTo s s.size) : namedB s = true := by unfold namedB; rw [decide_eq_true h, decide_eq_true ho]; rfl
theorem ok_word {i n : Nat} (h : wordN n = true) : okAt i n = true := by unfold okAt; rw [h]; rfl
theorem ok_dig {i n : Nat} (h : digN n = true) (hi : 0 < i) : okAt i n = true := by unfold okAt; rw [h, decide_eq_true hi]; simp
theorem ok_dig0 {n : Nat} (hw : wordN n = false) : okAt 0 n = false := by unfold okAt; rw [hw]; simp
theorem ok_bad {i n : Nat} (hw : wordN n = false) (hd : digN n = false) : okAt i n = false := by unfold okAt; rw [hw, hd]; simp
end Go.Proofs.YtpkbkmppkgeklaaDoor
