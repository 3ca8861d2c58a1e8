/- The walk of RtlParts. No condition. -/
import Derived.Test.YticgaknkonolnaaRtlRec
namespace Go.Proofs.Yticgaknkonolnaa
open Go.RowKit
set_option linter.unusedVariables false
set_option maxHeartbeats 4000000
theorem quo_pair (o1 o2 a b : Int) (h : (o1 = 6 ∧ o2 = 8) ∨ (o1 = 7 ∧ o2 = 9)) (ha : In64 a) (hb : In64 b) :
    (rquo o1 a b).2 = (rquo o2 a b).2 ∧ ((rquo o1 a b).2 = true → wrap64 (wrap64 ((rquo o1 a b).1 * b) + (rquo o2 a b).1) = a) := by
  obtain ⟨a1, a2⟩ := ha
  obtain ⟨b1, b2⟩ := hb
  rcases h with ⟨rfl, rfl⟩ | ⟨rfl, rfl⟩
  · by_cases hn : b = 0 ∨ (a = -9223372036854775808 ∧ b = -1)
    · have e1 : rquo 6 a b = (0, false) := by unfold rquo; rw [if_pos (by unfold noQ; omega)]
      have e2 : rquo 8 a b = (0, false) := by unfold rquo; rw [if_pos (by unfold noQ; omega)]
      rw [e1, e2]; simp
    · have e1 : rquo 6 a b = (wrap64 (a.tdiv b), true) := by unfold rquo; rw [if_neg (by unfold noQ; omega), if_pos rfl]
      have e2 : rquo 8 a b = (a.tmod b, true) := by unfold rquo; rw [if_neg (by unfold noQ; omega), if_neg (by decide), if_pos rfl]
      rw [e1, e2]
      refine ⟨rfl, fun _ => ?_⟩
      have hq := wrap64_id (tdiv_In a b ⟨a1, a2⟩ (by omega))
      simp only []
      rw [hq]
      have := Int.mul_tdiv_add_tmod a b
      rw [Int.mul_comm] at this
      have e : wrap64 (wrap64 (a.tdiv b * b) + a.tmod b) = wrap64 (a.tdiv b * b + a.tmod b) := by unfold wrap64; omega
      rw [e, this]
      unfold wrap64; omega
  · by_cases hn : b = 0
    · have e1 : rquo 7 a b = (0, false) := by unfold rquo; rw [if_pos (by unfold noQ; omega)]
      have e2 : rquo 9 a b = (0, false) := by unfold rquo; rw [if_pos (by unfold noQ; omega)]
      rw [e1, e2]; simp
    · have e1 : rquo 7 a b = (wrap64 (uS a / uS b), true) := by unfold rquo; rw [if_neg (by unfold noQ; omega), if_neg (by decide), if_neg (by decide), if_pos rfl]
      have e2 : rquo 9 a b = (wrap64 (uS a % uS b), true) := by unfold rquo; rw [if_neg (by unfold noQ; omega), if_neg (by decide), if_neg (by decide), if_neg (by decide)]
      rw [e1, e2]
      refine ⟨rfl, fun _ => ?_⟩
      simp only []
      have hd := Int.mul_ediv_add_emod (uS a) (uS b)
      rw [Int.mul_comm] at hd
      have m1 : (wrap64 (uS a / uS b) * b) % 18446744073709551616 = ((uS a / uS b) * uS b) % 18446744073709551616 := by
        have x1 : wrap64 (uS a / uS b) % 18446744073709551616 = (uS a / uS b) % 18446744073709551616 := by unfold wrap64; omega
        have x2 : b % 18446744073709551616 = uS b % 18446744073709551616 := by unfold uS; omega
        rw [Int.mul_emod, x1, x2, ← Int.mul_emod]
      generalize uS a / uS b = q at *
      generalize uS a % uS b = r at *
      generalize wrap64 q * b = x at *
      generalize q * uS b = y at *
      unfold uS at hd
      unfold wrap64; omega
theorem flip (a : Int) (ha : In64 a) : bits .xor .i64 a (-9223372036854775808) = (if a < 0 then a + 9223372036854775808 else a - 9223372036854775808) := by
  obtain ⟨a1, a2⟩ := ha
  have h := bits_opN 5 (by decide) a (-9223372036854775808)
  have e5 : bitO 5 = .xor := rfl
  rw [e5] at h
  rw [h]
  have e : opN 5 (nat64 a) (nat64 (-9223372036854775808)) = (nat64 a) ^^^ 2 ^ 63 := by
    have : nat64 (-9223372036854775808) = 2 ^ 63 := by decide
    rw [this]; rfl
  rw [e]
  have hl := nat64_lt a
  have hv := nat64_eq a
  have hx : (nat64 a) ^^^ 2 ^ 63 = if nat64 a < 2 ^ 63 then nat64 a + 2 ^ 63 else nat64 a - 2 ^ 63 := by
    split
    · rename_i hlt
      have := Nat.two_pow_add_eq_or_of_lt (i := 63) hlt 1
      rw [Nat.mul_one] at this
      rw [Nat.add_comm, this]
      apply Nat.eq_of_testBit_eq
      intro i
      rw [Nat.testBit_xor, Nat.testBit_or, Nat.testBit_two_pow]
      by_cases hi : 63 = i
      · subst hi; simp [Nat.testBit_lt_two_pow hlt]
      · simp [hi]
    · rename_i hge
      have hm : nat64 a - 2 ^ 63 < 2 ^ 63 := by omega
      have := Nat.two_pow_add_eq_or_of_lt (i := 63) hm 1
      rw [Nat.mul_one] at this
      have e2 : nat64 a = 2 ^ 63 ||| (nat64 a - 2 ^ 63) := by omega
      conv => lhs; rw [e2]
      apply Nat.eq_of_testBit_eq
      intro i
      rw [Nat.testBit_xor, Nat.testBit_or, Nat.testBit_two_pow]
      by_cases hi : 63 = i
      · subst hi; simp [Nat.testBit_lt_two_pow hm]
      · simp [hi]
  rw [hx]
  unfold wrap64
  split <;> split <;> omega
theorem par1 (a b : Int) (ha : In64 a) (hb : In64 b) : rhol 18 (bits .xor .i64 a (-9223372036854775808)) (bits .xor .i64 b (-9223372036854775808)) = rhol 20 a b := by
  rw [flip a ha, flip b hb]
  obtain ⟨a1, a2⟩ := ha
  obtain ⟨b1, b2⟩ := hb
  simp only [rhol, IntKind.wrap_u64]
  simp
  split <;> split <;> omega
theorem par2 (a b : Int) (ha : In64 a) (hb : In64 b) : rhol 19 (bits .xor .i64 a (-9223372036854775808)) (bits .xor .i64 b (-9223372036854775808)) = rhol 21 a b := by
  rw [flip a ha, flip b hb]
  obtain ⟨a1, a2⟩ := ha
  obtain ⟨b1, b2⟩ := hb
  simp only [rhol, IntKind.wrap_u64]
  simp
  split <;> split <;> omega
theorem par3 (a b : Int) : rhol 17 a b = !rhol 16 a b := by simp only [rhol]; simp; rfl
theorem par4 (a b : Int) : rhol 19 b a = !rhol 18 a b := by simp only [rhol]; simp; rw [Bool.eq_iff_iff]; simp
end Go.Proofs.Yticgaknkonolnaa
