/- Plain facts: numbers as bytes, the lowest first. No condition. -/
import Derived.Test.YthkaachgfiljmaaLib
namespace Go.Proofs.Ythkaachgfiljmaa
open Go.RowKit
set_option linter.unusedVariables false
/-- do n bytes from an address on lie in the data, or in the stack? -/
def hasS (size at_ n : Int) : Bool :=
  decide (0 ≤ n ∧ n ≤ 8 ∧ ((65536 ≤ at_ ∧ at_ ≤ 65536 + size ∧ n ≤ 65536 + size - at_) ∨ (67108864 ≤ at_ ∧ at_ ≤ 134217728 ∧ n ≤ 134217728 - at_)))
/-- the number of k bytes -/
def ldV (f : Int → Int) (at_ : Int) : Nat → Int
  | 0 => 0
  | k + 1 => ldV f at_ k + f (at_ + k) * 2 ^ (8 * k)
/-- the bytes behind a number of k bytes that is stored -/
def stV (f : Int → Int) (at_ : Int) (k : Nat) (v x : Int) : Int :=
  if at_ ≤ x ∧ x < at_ + k then v / 2 ^ (8 * (x - at_).toNat) % 256 else f x
theorem ldV_in (f : Int → Int) (at_ : Int) (hf : ∀ x, 0 ≤ f x ∧ f x ≤ 255) (k : Nat) : 0 ≤ ldV f at_ k ∧ ldV f at_ k < 2 ^ (8 * k) := by
  induction k with
  | zero => simp [ldV]
  | succ k ih =>
    obtain ⟨h1, h2⟩ := hf (at_ + k)
    have hp : (0 : Int) < 2 ^ (8 * k) := Int.pow_pos (by decide)
    have e : (2 : Int) ^ (8 * (k + 1)) = 2 ^ (8 * k) * 256 := by
      rw [show 8 * (k + 1) = 8 * k + 8 by omega, Int.pow_add]; rfl
    simp only [ldV]
    generalize f (at_ + k) = c at *
    generalize (2 : Int) ^ (8 * k) = q at *
    have h3 : c * q ≤ 255 * q := Int.mul_le_mul_of_nonneg_right h2 (by omega)
    have h4 : 0 ≤ c * q := Int.mul_nonneg h1 (by omega)
    rw [e]
    constructor <;> omega
theorem pow_le64 (k : Nat) (h : k < 8) : (2 : Int) ^ (8 * k) * 256 ≤ 18446744073709551616 := by
  have hc : k = 0 ∨ k = 1 ∨ k = 2 ∨ k = 3 ∨ k = 4 ∨ k = 5 ∨ k = 6 ∨ k = 7 := by omega
  rcases hc with rfl | rfl | rfl | rfl | rfl | rfl | rfl | rfl <;> decide
/-- one byte more, by '|' -/
theorem ld_step (f : Int → Int) (at_ : Int) (hf : ∀ x, 0 ≤ f x ∧ f x ≤ 255) (k : Nat) (hk : k < 8) :
    bits .or .u64 (ldV f at_ k) (IntKind.u64.wrap (f (at_ + k) * 2 ^ (8 * k))) = ldV f at_ (k + 1) := by
  obtain ⟨h1, h2⟩ := hf (at_ + k)
  obtain ⟨h3, h4⟩ := ldV_in f at_ hf k
  have hp : (0 : Int) < 2 ^ (8 * k) := Int.pow_pos (by decide)
  have h5 := pow_le64 k hk
  simp only [ldV]
  generalize f (at_ + k) = c at *
  have h6 : c * 2 ^ (8 * k) ≤ 255 * 2 ^ (8 * k) := Int.mul_le_mul_of_nonneg_right h2 (by omega)
  have h7 : 0 ≤ c * 2 ^ (8 * k) := Int.mul_nonneg h1 (by omega)
  rw [IntWalk.u64_in _ (by omega)]
  rw [u64_or _ _ h3 (by omega) h7 (by omega)]
  have e1 : (c * 2 ^ (8 * k)).toNat = c.toNat * 2 ^ (8 * k) := by
    obtain ⟨m, rfl⟩ := Int.eq_ofNat_of_zero_le h1
    have hm : ((m : Int) * 2 ^ (8 * k)) = ((m * 2 ^ (8 * k) : Nat) : Int) := by simp
    rw [hm, Int.toNat_natCast, Int.toNat_natCast]
  have e2 : (ldV f at_ k).toNat < 2 ^ (8 * k) := by
    have : ((2 ^ (8 * k) : Nat) : Int) = 2 ^ (8 * k) := by simp
    omega
  rw [Nat.or_comm, nat_join (8 * k) _ _ (by rw [e1]; exact Nat.mul_mod_left _ _) e2]
  omega
theorem st_zero (f : Int → Int) (at_ v : Int) : stV f at_ 0 v = f := by
  funext x; unfold stV; rw [if_neg (by omega)]
theorem st_step (f : Int → Int) (at_ v : Int) (k : Nat) : (fun x => if x = at_ + k then v / 2 ^ (8 * k) % 256 else stV f at_ k v x) = stV f at_ (k + 1) v := by
  funext x
  unfold stV
  by_cases h : x = at_ + k
  · subst h
    rw [if_pos rfl, if_pos (by omega), show (at_ + (k : Int) - at_).toNat = k by omega]
  · rw [if_neg h]
    by_cases h2 : at_ ≤ x ∧ x < at_ + k
    · rw [if_pos h2, if_pos (by omega)]
    · rw [if_neg h2, if_neg (by omega)]
theorem st_in (f : Int → Int) (at_ : Int) (k : Nat) (v : Int) (hf : ∀ x, 0 ≤ f x ∧ f x ≤ 255) (x : Int) : 0 ≤ stV f at_ k v x ∧ stV f at_ k v x ≤ 255 := by
  unfold stV; split
  · omega
  · exact hf x
end Go.Proofs.Ythkaachgfiljmaa
