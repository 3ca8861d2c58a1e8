/- Plain facts on bits of numbers without a sign; the walk of the example. No condition. -/
import Derived.Test.YteeodbjpmofhhaaCpu
namespace Go.Proofs.Yteeodbjpmofhhaa
open Go.RowKit
set_option linter.unusedVariables false
set_option maxHeartbeats 1000000
theorem nat_sums (n : Nat) : ∀ a b : Nat, a + b ≤ n → (a ^^^ b) + (a &&& b) = a ||| b ∧ (a ||| b) + (a &&& b) = a + b := by
  induction n with
  | zero => intro a b h; have ha : a = 0 := by omega
            have hb : b = 0 := by omega
            subst ha hb; decide
  | succ n ih =>
    intro a b h
    by_cases hz : a + b = 0
    · have ha : a = 0 := by omega
      have hb : b = 0 := by omega
      subst ha hb; decide
    · have h1 := ih (a / 2) (b / 2) (by omega)
      have x1 := Nat.xor_div_two (a := a) (b := b)
      have x2 := Nat.and_div_two (a := a) (b := b)
      have x3 := Nat.or_div_two (a := a) (b := b)
      have y1 := Nat.xor_mod_two_eq_one (a := a) (b := b)
      have y2 := Nat.and_mod_two_eq_one (a := a) (b := b)
      have y3 := Nat.or_mod_two_eq_one (a := a) (b := b)
      rw [← x1, ← x2, ← x3] at h1
      generalize a ^^^ b = x at *
      generalize a &&& b = y at *
      generalize a ||| b = z at *
      omega
theorem or_le (a b : Nat) : (a ||| b) ≤ a + b := by have := (nat_sums (a + b) a b (Nat.le_refl _)).2; omega
theorem xor_and_or (a b : Int) (ha : InU64 a) (hb : InU64 b) : bits .xor .u64 a b + bits .and .u64 a b = bits .or .u64 a b := by
  obtain ⟨a1, a2⟩ := ha
  obtain ⟨b1, b2⟩ := hb
  rw [u64_xor _ _ a1 (by omega) b1 (by omega), u64_and _ _ a1 (by omega) b1 (by omega), u64_or _ _ a1 (by omega) b1 (by omega)]
  have := (nat_sums _ a.toNat b.toNat (Nat.le_refl _)).1
  omega
theorem or_and_sum (a b : Int) (ha : InU64 a) (hb : InU64 b) : bits .or .u64 a b + bits .and .u64 a b = a + b := by
  obtain ⟨a1, a2⟩ := ha
  obtain ⟨b1, b2⟩ := hb
  rw [u64_and _ _ a1 (by omega) b1 (by omega), u64_or _ _ a1 (by omega) b1 (by omega)]
  have := (nat_sums _ a.toNat b.toNat (Nat.le_refl _)).2
  omega
theorem and_in (a b : Int) (ha : InU64 a) (hb : InU64 b) : InU64 (bits .and .u64 a b) := by
  obtain ⟨a1, a2⟩ := ha
  obtain ⟨b1, b2⟩ := hb
  unfold InU64
  rw [u64_and _ _ a1 (by omega) b1 (by omega)]
  have := Nat.and_lt_two_pow (n := 64) a.toNat (y := b.toNat) (by omega)
  omega
theorem xor_in (a b : Int) (ha : InU64 a) (hb : InU64 b) : InU64 (bits .xor .u64 a b) := by
  obtain ⟨a1, a2⟩ := ha
  obtain ⟨b1, b2⟩ := hb
  unfold InU64
  rw [u64_xor _ _ a1 (by omega) b1 (by omega)]
  have := Nat.xor_lt_two_pow (n := 64) (x := a.toNat) (y := b.toNat) (by omega) (by omega)
  omega
theorem or_in (a b : Int) (ha : InU64 a) (hb : InU64 b) : InU64 (bits .or .u64 a b) := by
  obtain ⟨a1, a2⟩ := ha
  obtain ⟨b1, b2⟩ := hb
  unfold InU64
  rw [u64_or _ _ a1 (by omega) b1 (by omega)]
  have := Nat.or_lt_two_pow (n := 64) (x := a.toNat) (y := b.toNat) (by omega) (by omega)
  omega
theorem w64_in (n : Int) : InU64 (w64 n) := by unfold w64 InU64; rw [IntKind.wrap_u64]; omega
theorem w64_eq (n : Int) : w64 n = n % 18446744073709551616 := by unfold w64; rw [IntKind.wrap_u64]
/-- the highest bit -/
theorem p63_and (a b : Int) (ha : InU64 a) (hb : InU64 b) : p63 (bits .and .u64 a b) = (p63 a && p63 b) := by
  obtain ⟨a1, a2⟩ := ha
  obtain ⟨b1, b2⟩ := hb
  rw [u64_and _ _ a1 (by omega) b1 (by omega)]
  obtain ⟨m, rfl⟩ := Int.eq_ofNat_of_zero_le a1
  obtain ⟨n, rfl⟩ := Int.eq_ofNat_of_zero_le b1
  have h := Nat.and_div_two_pow (a := m) (b := n) (n := 63)
  have e : ((2 : Nat) ^ 63) = 9223372036854775808 := by decide
  rw [e] at h
  simp only [Int.toNat_natCast] at *
  unfold p63
  have hm : m / 9223372036854775808 = 0 ∨ m / 9223372036854775808 = 1 := by omega
  have hn : n / 9223372036854775808 = 0 ∨ n / 9223372036854775808 = 1 := by omega
  have e2 : ∀ k : Nat, ((k : Int) / 9223372036854775808 == 1) = (k / 9223372036854775808 == 1) := fun k => by rw [Bool.eq_iff_iff]; simp; omega
  rw [e2, e2, e2, h]
  rcases hm with hm | hm <;> rcases hn with hn | hn <;> rw [hm, hn] <;> decide
theorem p63_xor (a b : Int) (ha : InU64 a) (hb : InU64 b) : p63 (bits .xor .u64 a b) = (p63 a ^^ p63 b) := by
  obtain ⟨a1, a2⟩ := ha
  obtain ⟨b1, b2⟩ := hb
  rw [u64_xor _ _ a1 (by omega) b1 (by omega)]
  obtain ⟨m, rfl⟩ := Int.eq_ofNat_of_zero_le a1
  obtain ⟨n, rfl⟩ := Int.eq_ofNat_of_zero_le b1
  have h := Nat.xor_div_two_pow (a := m) (b := n) (n := 63)
  have e : ((2 : Nat) ^ 63) = 9223372036854775808 := by decide
  rw [e] at h
  simp only [Int.toNat_natCast] at *
  unfold p63
  have hm : m / 9223372036854775808 = 0 ∨ m / 9223372036854775808 = 1 := by omega
  have hn : n / 9223372036854775808 = 0 ∨ n / 9223372036854775808 = 1 := by omega
  have e2 : ∀ k : Nat, ((k : Int) / 9223372036854775808 == 1) = (k / 9223372036854775808 == 1) := fun k => by rw [Bool.eq_iff_iff]; simp; omega
  rw [e2, e2, e2, h]
  rcases hm with hm | hm <;> rcases hn with hn | hn <;> rw [hm, hn] <;> decide
/-- the contract of Alu by its answer's parts -/
theorem alu_is (op a b : Int) (f : Fl) (n : Int) (z s c o ok : Bool) (w : World) (ha : InU64 a) (hb : InU64 b) (hr : alu op a b f = (n, ⟨z, s, c, o⟩, ok)) :
    Calls Try.prog 10 #[.int .i64 op, .int .u64 a, .int .u64 b, f.v] w fun e w' => e = .returned (.tuple #[.int .u64 n, .agg #[.bool z, .bool s, .bool c, .bool o], .bool ok]) ∧ Below w.heap.size w w' := by
  have := alu_any op a b f w ha hb
  rw [hr] at this
  exact this
def noF : Fl := ⟨false, false, false, false⟩
set_option maxRecDepth 100000 in
theorem right_ret (w : World) : Calls Try.prog 13 #[.agg #[.int .i64 38, .int .i64 0, .int .i64 0, .int .i64 0, .int .i64 0, .bool false, .int .i64 0, .string ByteArray.empty]] w fun e w' => e = .returned (.bool true) ∧ Below w.heap.size w w' := by
  go_enter Try.func13, Try.ntmps13
  go_wp2
  go_returns
  refine ⟨rfl, ?_⟩
  go_grown
theorem fit_walk (w : World) : Calls Try.prog 8 #[] w fun e w' => e = .returned (.bool true) ∧ Below w.heap.size w w' := by
  have A1 := Lib.hid (fun w => alu_is 15 3 5 noF 18446744073709551614 false true true false true w ⟨by decide, by decide⟩ ⟨by decide, by decide⟩ (by decide))
  go_enter Try.func8, Try.ntmps8
  go_wp2_with fail
  refine (A1.out _).mono ?_
  rintro e w1 ⟨rfl, hb1⟩
  obtain ⟨hc1, hf1⟩ := bcell hb1
  clear A1
  go_wp2_with fail
  have kb1 := hb1
  refine (right_ret _).mono ?_
  rintro e w2 ⟨rfl, hb2⟩
  have kb2 := kb1.bt (below_new hb2)
  go_wp2_with fail
  go_returns
  exact ⟨rfl, kb2⟩
end Go.Proofs.Yteeodbjpmofhhaa
