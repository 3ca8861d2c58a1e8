/- What is known of marks: numbers brought into a range. No condition. -/
import Derived.Test.YtinamdcmkamlhaaGreatDoorVmS
import Derived.IntWalk
namespace Go.Proofs.YtinamdcmkamlhaaGreatDoor
open Go.RowKit
set_option linter.unusedVariables false
theorem tmod_range (n : Int) (k : Nat) (hk : 0 < k) : -(k : Int) < n.tmod k ∧ n.tmod k < k := by
  have h1 := Int.lt_tmod_of_pos n (b := (k : Int)) (by omega)
  have h2 := Int.tmod_lt_of_pos n (b := (k : Int)) (by omega)
  exact ⟨h1, h2⟩
/-- (n % k + k) % k -/
theorem modk (n : Int) (k : Nat) (hk : 0 < k) (hk2 : k < 1000000000) : ∃ r : Nat, r < k ∧ evB2 .rem .i64 (IntKind.i64.wrap (n.tmod k + k)) .i64 k = some (.int .i64 r) := by
  obtain ⟨h1, h2⟩ := tmod_range n k hk
  have hw : IntKind.i64.wrap (n.tmod k + k) = n.tmod k + k := IntWalk.i64_in _ (by omega)
  rw [hw]
  have h3 : 0 ≤ n.tmod k + k := by omega
  have h4 : (n.tmod k + k).tmod k = (n.tmod k + k) % k := by rw [Int.tmod_eq_emod_of_nonneg h3]
  have h5 : 0 ≤ (n.tmod k + k) % (k : Int) := Int.emod_nonneg _ (by omega)
  have h6 : (n.tmod k + k) % (k : Int) < k := Int.emod_lt_of_pos _ (by omega)
  refine ⟨((n.tmod k + k) % (k : Int)).toNat, by omega, ?_⟩
  have hk0 : ¬ (k : Int) = 0 := by omega
  simp only [evB2, isShift, evB, or_true, if_true, hk0, if_false, h4]
  rw [Int.toNat_of_nonneg h5]
/-- the mark of (n % k + k) % k -/
def markMod (i : Int) (k : Nat) : Value := symNode .rem .i64 (symNode .add .i64 (symNode .rem .i64 (mark .i64 i) (.int .i64 k)) (.int .i64 k)) (.int .i64 k)
theorem den_mod {ρ : Int → Int} {i : Int} {k : Nat} (hk : 0 < k) {r : Nat} (h : evB2 .rem .i64 (IntKind.i64.wrap ((ρ i).tmod k + k)) .i64 k = some (.int .i64 r)) : den ρ (markMod i k) = some (.int .i64 r) := by
  have hk0 : ¬ (k : Int) = 0 := by omega
  have e1 : evB2 .rem .i64 (ρ i) .i64 k = some (.int .i64 ((ρ i).tmod k)) := by simp only [evB2, isShift, evB, or_true, if_true, hk0, if_false]
  have e2 : evB2 .add .i64 ((ρ i).tmod k) .i64 k = some (.int .i64 (IntKind.i64.wrap ((ρ i).tmod k + k))) := by simp [evB2, isShift, evB]
  simp [markMod, symNode, isCmp, bcode, mark, den, dens, denN, bdec, e1, e2, h, asKind]
theorem and_low (a : Int) (k : Nat) (hk : k < 60) : ∃ r : Nat, r < 2 ^ k ∧ evB2 .and .i64 a .i64 ((2 ^ k - 1 : Nat) : Int) = some (.int .i64 r) := by
  have hp : 2 ^ k < 2 ^ 60 := Nat.pow_lt_pow_right (by decide) hk
  have hp0 : 0 < 2 ^ k := Nat.two_pow_pos k
  have hlt : (BitVec.ofInt 64 a).toNat % 2 ^ k < 2 ^ k := Nat.mod_lt _ hp0
  have h2 : (BitVec.ofInt 64 ((2 ^ k - 1 : Nat) : Int)).toNat = 2 ^ k - 1 := by
    rw [BitVec.ofInt_natCast, BitVec.toNat_ofNat]
    exact Nat.mod_eq_of_lt (by omega)
  refine ⟨(BitVec.ofInt 64 a).toNat % 2 ^ k, hlt, ?_⟩
  have h : (BitVec.ofInt 64 a &&& BitVec.ofInt 64 ((2 ^ k - 1 : Nat) : Int)).toNat = (BitVec.ofInt 64 a).toNat % 2 ^ k := by
    rw [BitVec.toNat_and, h2]
    exact Nat.and_two_pow_sub_one_eq_mod _ k
  show some (Value.int .i64 (IntKind.i64.wrap ((BitVec.ofInt 64 a &&& BitVec.ofInt 64 ((2 ^ k - 1 : Nat) : Int)).toNat : Nat))) = _
  rw [h]
  generalize (BitVec.ofInt 64 a).toNat % 2 ^ k = r at hlt
  have : IntKind.i64.wrap (r : Nat) = (r : Int) := IntWalk.i64_in _ (by omega)
  rw [this]
/-- the mark of a & (2^k - 1) -/
def markAnd (i : Int) (k : Nat) : Value := symNode .and .i64 (mark .i64 i) (.int .i64 ((2 ^ k - 1 : Nat) : Int))
theorem den_and {ρ : Int → Int} {i : Int} {k r : Nat} (h : evB2 .and .i64 (ρ i) .i64 ((2 ^ k - 1 : Nat) : Int) = some (.int .i64 r)) : den ρ (markAnd i k) = some (.int .i64 r) := by
  simp only [markAnd, symNode, isCmp, bcode, mark, den, dens, denN, bdec, h, asKind, cond_false, if_true]
end Go.Proofs.YtinamdcmkamlhaaGreatDoor
