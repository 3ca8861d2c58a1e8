/- Plain facts: bits of whole numbers, one by one and together; no program is named here. No condition. -/
import Derived.Test.YtpkbkmppkgeklaaDoorLib
namespace Go.Proofs.YtpkbkmppkgeklaaDoor
open Go.RowKit
/-- a number's 64 bits -/
def nat64 (a : Int) : Nat := (BitVec.ofInt 64 a).toNat
theorem nat64_eq (a : Int) : (nat64 a : Int) = a % 18446744073709551616 := by
  simp only [nat64, BitVec.toNat_ofInt]; omega
theorem nat64_lt (a : Int) : nat64 a < 18446744073709551616 := by have := nat64_eq a; omega
/-- the operator of bits of its number -/
def opN (op : Nat) (x y : Nat) : Nat := if op = 3 then x &&& y else if op = 4 then x ||| y else x ^^^ y
def bitO (op : Nat) : BinOp := if op = 3 then .and else if op = 4 then .or else .xor
def onB (op : Nat) (x y : Bool) : Bool := if op = 3 then x && y else if op = 4 then x || y else x ^^ y
theorem bits_opN (op : Nat) (h : op = 3 ∨ op = 4 ∨ op = 5) (a b : Int) : bits (bitO op) .i64 a b = wrap64 (opN op (nat64 a) (nat64 b)) := by
  rw [← IntWalk.i64_left]
  rcases h with rfl | rfl | rfl
  · change IntKind.i64.wrap (((BitVec.ofInt 64 a &&& BitVec.ofInt 64 b : BitVec 64).toNat : Nat) : Int) = _
    rw [BitVec.toNat_and]; rfl
  · change IntKind.i64.wrap (((BitVec.ofInt 64 a ||| BitVec.ofInt 64 b : BitVec 64).toNat : Nat) : Int) = _
    rw [BitVec.toNat_or]; rfl
  · change IntKind.i64.wrap (((BitVec.ofInt 64 a ^^^ BitVec.ofInt 64 b : BitVec 64).toNat : Nat) : Int) = _
    rw [BitVec.toNat_xor]; rfl
theorem opN_test (op : Nat) (x y i : Nat) : (opN op x y).testBit i = onB op (x.testBit i) (y.testBit i) := by
  unfold opN onB; split
  · exact Nat.testBit_and ..
  · split
    · exact Nat.testBit_or ..
    · exact Nat.testBit_xor ..
theorem opN_lt (op : Nat) (x y : Nat) (hx : x < 2 ^ 64) (hy : y < 2 ^ 64) : opN op x y < 2 ^ 64 := by
  unfold opN; split
  · exact Nat.lt_of_le_of_lt Nat.and_le_left hx
  · split
    · exact Nat.or_lt_two_pow hx hy
    · exact Nat.xor_lt_two_pow hx hy
theorem bits_and_one (x : Int) : bits .and .i64 x 1 = x % 2 := by
  have : nat64 1 = 1 := by decide
  have h := bits_opN 3 (by decide) x 1
  have e3 : bitO 3 = .and := rfl
  rw [e3] at h
  rw [h, this]; simp only [opN, if_true, Nat.and_one_is_mod]
  have := nat64_eq x
  unfold wrap64; omega
theorem bit_at (a : Int) (i : Nat) (hi : i < 64) : (a / 2 ^ i) % 2 = if (nat64 a).testBit i then 1 else 0 := by
  have h := nat64_eq a
  have h1 : ∃ q : Int, a = nat64 a + 18446744073709551616 * q := ⟨a / 18446744073709551616, by omega⟩
  obtain ⟨q, hq⟩ := h1
  have hp : (18446744073709551616 : Int) = 2 ^ i * (2 * 2 ^ (63 - i)) := by
    have : (18446744073709551616 : Int) = 2 ^ 64 := by decide
    rw [this, show (64 : Nat) = i + (1 + (63 - i)) by omega, Int.pow_add, Int.pow_add]; rfl
  have hpos : (0 : Int) < 2 ^ i := Int.pow_pos (by decide)
  have e : a / 2 ^ i = (nat64 a : Int) / 2 ^ i + 2 * (2 ^ (63 - i) * q) := by
    conv => lhs; rw [hq, hp, Int.mul_assoc]
    rw [Int.add_mul_ediv_left _ _ (by omega)]; rw [Int.mul_assoc]
  rw [e]
  have e2 : ((nat64 a : Int) / 2 ^ i) = ((nat64 a / 2 ^ i : Nat) : Int) := by
    rw [Int.natCast_ediv, Int.natCast_pow]; rfl
  rw [e2]
  rw [Nat.testBit_eq_decide_div_mod_eq]
  generalize nat64 a / 2 ^ i = m
  generalize 2 ^ (63 - i) * q = r
  split
  · rename_i hh; simp at hh; omega
  · rename_i hh; simp at hh; omega
/-- what has been put together after i bits -/
def accB (op : Nat) (a b : Int) (i : Nat) : Int := wrap64 ((opN op (nat64 a) (nat64 b) % 2 ^ i : Nat))
theorem accB_zero (op : Nat) (a b : Int) : accB op a b 0 = 0 := by simp [accB, Nat.mod_one, wrap64]
theorem accB_end (op : Nat) (h : op = 3 ∨ op = 4 ∨ op = 5) (a b : Int) : accB op a b 64 = bits (bitO op) .i64 a b := by
  rw [bits_opN op h, accB, Nat.mod_eq_of_lt (opN_lt _ _ _ (nat64_lt a) (nat64_lt b))]
theorem mod_succ (x i : Nat) : x % 2 ^ (i + 1) = x % 2 ^ i + 2 ^ i * (x.testBit i).toNat := by
  rw [Nat.mod_pow_succ, Nat.testBit_eq_decide_div_mod_eq]
  congr 2
  have := Nat.mod_two_eq_zero_or_one (x / 2 ^ i)
  rcases this with h | h <;> simp [h]
theorem accB_off (op : Nat) (a b : Int) (i : Nat) (h : onB op ((nat64 a).testBit i) ((nat64 b).testBit i) = false) : accB op a b (i + 1) = accB op a b i := by
  unfold accB; rw [mod_succ, opN_test, h]; simp
theorem nat64_wrap (n : Nat) (h : n < 2 ^ 64) : nat64 (wrap64 n) = n := by
  have := nat64_eq (wrap64 n); unfold wrap64 at this ⊢; omega
theorem accB_on (op : Nat) (a b : Int) (i : Nat) (hi : i < 64) (h : onB op ((nat64 a).testBit i) ((nat64 b).testBit i) = true) :
    bits .or .i64 (accB op a b i) (wrap64 (2 ^ i)) = accB op a b (i + 1) := by
  have h4 := bits_opN 4 (by decide) (accB op a b i) (wrap64 (2 ^ i))
  have e4 : bitO 4 = .or := rfl
  rw [e4] at h4
  rw [h4]; unfold accB
  generalize hm : opN op (nat64 a) (nat64 b) = m at *
  have hp : (2 : Nat) ^ i < 2 ^ 64 := Nat.pow_lt_pow_right (by decide) hi
  have hl : m % 2 ^ i < 2 ^ i := Nat.mod_lt _ (Nat.pow_pos (by decide))
  rw [nat64_wrap _ (by omega)]
  have e2 : nat64 (wrap64 (2 ^ i)) = 2 ^ i := by
    have := nat64_wrap (2 ^ i) hp
    rwa [Int.natCast_pow] at this
  rw [e2]
  congr 2
  have e5 : ∀ x y, opN 4 x y = x ||| y := fun _ _ => rfl
  rw [e5, mod_succ, ← hm, opN_test, h]
  simp only [Bool.toNat_true, Nat.mul_one]
  rw [hm]
  have := Nat.two_pow_add_eq_or_of_lt (i := i) hl 1
  rw [Nat.mul_one] at this
  rw [Nat.or_comm, ← this]; omega
theorem pw_pos (k : Nat) : (0 : Int) < 2 ^ k := Int.pow_pos (by decide)
theorem pw_split (b k : Nat) (h : k ≤ b) : (2 : Int) ^ b = 2 ^ (b - k) * 2 ^ k := by
  rw [← Int.pow_add, Nat.sub_add_cancel h]
theorem mask (n : Int) (j : Nat) (hj : j < 64) (m : Int) (hm : m = 2 ^ j - 1) : bits .and .i64 n m = n % 2 ^ j := by
  have h := bits_opN 3 (by decide) n m
  have e3 : bitO 3 = .and := rfl
  rw [e3] at h
  rw [h]
  have hp : (2 : Nat) ^ j < 2 ^ 64 := Nat.pow_lt_pow_right (by decide) hj
  have hpos : 0 < (2 : Nat) ^ j := Nat.pow_pos (by decide)
  have hc : ((2 ^ j : Nat) : Int) = 2 ^ j := by simp
  have e : opN 3 (nat64 n) (nat64 m) = nat64 n % 2 ^ j := by
    have : nat64 m = 2 ^ j - 1 := by
      have := nat64_eq m; subst hm; omega
    rw [this]; exact Nat.and_two_pow_sub_one_eq_mod _ j
  rw [e]
  have h2 := nat64_eq n
  have h3 : ((nat64 n % 2 ^ j : Nat) : Int) = n % 2 ^ j := by
    rw [Int.natCast_emod, hc, h2]
    have e64 : (18446744073709551616 : Int) = 2 ^ 64 := by decide
    rw [e64, Int.emod_emod_of_dvd]
    rw [pw_split 64 j (by omega)]
    exact Int.dvd_mul_left _ _
  rw [h3]
  have h4 : n % 2 ^ j < 2 ^ 63 := by
    have h5 := Int.emod_lt_of_pos n (pw_pos j)
    have h6 : (2 : Nat) ^ j ≤ 2 ^ 63 := Nat.pow_le_pow_right (by decide) (by omega)
    omega
  have h7 := Int.emod_nonneg n (b := 2 ^ j) (by omega)
  unfold wrap64; omega
theorem and3 (n : Int) : bits .and .i64 n 3 = n % 4 := by
  have h := bits_opN 3 (by decide) n 3
  have e3 : bitO 3 = .and := rfl
  rw [e3] at h
  rw [h]
  have e : opN 3 (nat64 n) (nat64 3) = nat64 n % 4 := by
    have : nat64 3 = 2 ^ 2 - 1 := by decide
    rw [this]; exact Nat.and_two_pow_sub_one_eq_mod _ 2
  rw [e]; have := nat64_eq n; unfold wrap64; omega
theorem and4 (n : Int) : bits .and .i64 n 4 = if n / 4 % 2 = 0 then 0 else 4 := by
  have h := bits_opN 3 (by decide) n 4
  have e3 : bitO 3 = .and := rfl
  rw [e3] at h
  rw [h]
  have hb := bit_at n 2 (by decide)
  have e : opN 3 (nat64 n) (nat64 4) = if (nat64 n).testBit 2 then 4 else 0 := by
    have h4 : nat64 4 = 2 ^ 2 := by decide
    have e5 : ∀ x y, opN 3 x y = x &&& y := fun _ _ => rfl
    rw [h4, e5]
    apply Nat.eq_of_testBit_eq
    intro i
    rw [Nat.testBit_and, Nat.testBit_two_pow]
    by_cases hi : 2 = i
    · subst hi; cases ht : (nat64 n).testBit 2 <;> simp
      rw [show (4 : Nat) = 2 ^ 2 from rfl, Nat.testBit_two_pow]; simp
    · cases ht : (nat64 n).testBit 2 <;> simp [hi]
      rw [show (4 : Nat) = 2 ^ 2 from rfl, Nat.testBit_two_pow]; simp [hi]
  rw [e]
  have h22 : (2 : Int) ^ 2 = 4 := by decide
  rw [h22] at hb
  cases ht : (nat64 n).testBit 2 <;> rw [ht] at hb <;> simp at hb <;> simp [hb, wrap64]
theorem mask_u (x : Int) (j : Nat) (hj : j < 64) (m : Int) (hm : m = 2 ^ j - 1) (hx : 0 ≤ x ∧ x < 18446744073709551616) : bits .and .u64 x m = x % 2 ^ j := by
  have hp : (2 : Nat) ^ j < 2 ^ 64 := Nat.pow_lt_pow_right (by decide) hj
  have hpos : 0 < (2 : Nat) ^ j := Nat.pow_pos (by decide)
  have hc : ((2 ^ j : Nat) : Int) = 2 ^ j := by simp
  obtain ⟨n, rfl⟩ := Int.eq_ofNat_of_zero_le hx.1
  have hm2 : m = ((2 ^ j - 1 : Nat) : Int) := by rw [hm]; omega
  rw [hm2, u64_and_nat n (2 ^ j - 1) (by omega) (by omega), Nat.and_two_pow_sub_one_eq_mod, Int.natCast_emod, hc]
end Go.Proofs.YtpkbkmppkgeklaaDoor
