/- Walks: the types and the operators' names that the statements draw. No condition. -/
import Derived.Test.YtaijipapdbahkaaFit
import Derived.Test.YtaijipapdbahkaaBits
namespace Go.Proofs.Ytaijipapdbahkaa
open Go.RowKit
set_option linter.unusedVariables false
set_option maxHeartbeats 400000
def tySz (n : Int) : Int := if n % 4 = 0 then 1 else if n % 4 = 1 then 2 else if n % 4 = 2 then 4 else 8
def tySg (n : Int) : Bool := n / 4 % 2 == 0
theorem tySz_size (n : Int) : Size (tySz n) := by unfold tySz Size; split; · omega
                                                  split; · omega
                                                  split <;> omega
theorem and3 (n : Int) : bits .and .i64 n 3 = n % 4 := by
  have h := bits_opN 3 (by decide) n 3
  have e3 : bitO 3 = .and := rfl
  rw [e3] at h
  rw [h]
  have e : opN 3 (nat64 n) (nat64 3) = nat64 n % 4 := by
    have : nat64 3 = 2 ^ 2 - 1 := by decide
    rw [this]; exact Nat.and_two_pow_sub_one_eq_mod _ 2
  rw [e]; have := nat64_eq n; unfold wrap64; omega
theorem and4 (n : Int) : bits .and .i64 n 4 = if n / 4 % 2 = 0 then 0 else 4 := by
  have h := bits_opN 3 (by decide) n 4
  have e3 : bitO 3 = .and := rfl
  rw [e3] at h
  rw [h]
  have hb := bit_at n 2 (by decide)
  have e : opN 3 (nat64 n) (nat64 4) = if (nat64 n).testBit 2 then 4 else 0 := by
    have h4 : nat64 4 = 2 ^ 2 := by decide
    have e5 : ∀ x y, opN 3 x y = x &&& y := fun _ _ => rfl
    rw [h4, e5]
    apply Nat.eq_of_testBit_eq
    intro i
    rw [Nat.testBit_and, Nat.testBit_two_pow]
    by_cases hi : 2 = i
    · subst hi; cases ht : (nat64 n).testBit 2 <;> simp
      rw [show (4 : Nat) = 2 ^ 2 from rfl, Nat.testBit_two_pow]; simp
    · cases ht : (nat64 n).testBit 2 <;> simp [hi]
      rw [show (4 : Nat) = 2 ^ 2 from rfl, Nat.testBit_two_pow]; simp [hi]
  rw [e]
  have h22 : (2 : Int) ^ 2 = 4 := by decide
  rw [h22] at hb
  cases ht : (nat64 n).testBit 2 <;> rw [ht] at hb <;> simp at hb <;> simp [hb, wrap64]
theorem type_any (n : Int) (w : World) (hn : In64 n) :
    Calls Try.prog 8 #[.int .i64 n] w
      fun e w' => e = .returned (.agg #[.int .i64 1, .int .i64 (tySz n), .bool (tySg n), .bool false, .pointer none, .int .i64 0, .int .i64 0, .slice none 0 0, .pointer none]) ∧ Below w.heap.size w w' := by
  obtain ⟨h1, h2⟩ := hn
  have ha := and3 n
  have hb := and4 n
  have hc : n % 4 = 0 ∨ n % 4 = 1 ∨ n % 4 = 2 ∨ n % 4 = 3 := by omega
  have hg : tySg n = (bits .and .i64 n 4 == 0) := by
    rw [hb]; unfold tySg; by_cases h : n / 4 % 2 = 0 <;> simp [h]
  rw [hg]
  clear hg hb
  have hs : tySz n = 1 ∧ bits .and .i64 n 3 = 0 ∨ tySz n = 2 ∧ bits .and .i64 n 3 = 1 ∨ tySz n = 4 ∧ bits .and .i64 n 3 = 2 ∨ tySz n = 8 ∧ bits .and .i64 n 3 = 3 := by
    rw [ha]; unfold tySz; rcases hc with e | e | e | e <;> simp [e]
  clear ha hc
  rcases hs with ⟨e, ha⟩ | ⟨e, ha⟩ | ⟨e, ha⟩ | ⟨e, ha⟩ <;> rw [e] <;> clear e
  all_goals
    go_enter Try.func8, Try.ntmps8
    go_wp2
    go_returns
    exact ⟨rfl, by go_grown⟩
def opK (n : Int) : Nat := (n % 12).toNat
theorem opK_lt (n : Int) : opK n < 12 := by unfold opK; omega
theorem ops_any (n : Int) (w : World) (hn : In64 n) :
    Calls Try.prog 9 #[.int .i64 n] w fun e w' => e = .returned (.string (opB (opK n))) ∧ Below w.heap.size w w' := by
  obtain ⟨h1, h2⟩ := hn
  have hk := opK_lt n
  have he : (n.tmod 12 + 12) % 12 = (opK n : Int) := by
    unfold opK; rw [tmod_eq_if]; split <;> omega
  have hlo : -11 ≤ n.tmod 12 ∧ n.tmod 12 ≤ 11 := by rw [tmod_eq_if]; split <;> omega
  generalize opK n = k at *
  have hc : k = 0 ∨ k = 1 ∨ k = 2 ∨ k = 3 ∨ k = 4 ∨ k = 5 ∨ k = 6 ∨ k = 7 ∨ k = 8 ∨ k = 9 ∨ k = 10 ∨ k = 11 := by omega
  clear hk
  rcases hc with rfl | rfl | rfl | rfl | rfl | rfl | rfl | rfl | rfl | rfl | rfl | rfl <;> simp only [opB]
  all_goals
    go_enter Try.func9, Try.ntmps9
    go_wp2
    go_returns
    exact ⟨rfl, by go_grown⟩
end Go.Proofs.Ytaijipapdbahkaa
