/- Plain facts: shifted to the left and back; no program is named here. No condition. -/
import Derived.Test.YtaijipapdbahkaaBin
namespace Go.Proofs.Ytaijipapdbahkaa
open Go.RowKit
theorem pw_pos (k : Nat) : (0 : Int) < 2 ^ k := Int.pow_pos (by decide)
theorem pw_split (b k : Nat) (h : k ≤ b) : (2 : Int) ^ b = 2 ^ (b - k) * 2 ^ k := by
  rw [← Int.pow_add, Nat.sub_add_cancel h]
theorem mul_mod (a n c : Int) (hc : 0 < c) : (a * c) % (n * c) = a % n * c := by
  rw [Int.mul_comm a c, Int.mul_comm n c, Int.mul_emod_mul_of_pos a n hc, Int.mul_comm]
theorem back_u (b k : Nat) (x : Int) (h : k ≤ b) : (x * 2 ^ k % 2 ^ b) / 2 ^ k = x % 2 ^ (b - k) := by
  have hk := pw_pos k
  rw [pw_split b k h, mul_mod _ _ _ hk, Int.mul_ediv_cancel _ (by omega)]
theorem back_s (b k : Nat) (x : Int) (h : k < b) : ((x * 2 ^ k + 2 ^ (b - 1)) % 2 ^ b - 2 ^ (b - 1)) / 2 ^ k = (x + 2 ^ (b - k - 1)) % 2 ^ (b - k) - 2 ^ (b - k - 1) := by
  have hk := pw_pos k
  have e1 : (2 : Int) ^ (b - 1) = 2 ^ (b - k - 1) * 2 ^ k := by
    rw [pw_split (b - 1) k (by omega), show b - 1 - k = b - k - 1 by omega]
  rw [e1, ← Int.add_mul, pw_split b k (by omega), mul_mod _ _ _ hk, ← Int.sub_mul, Int.mul_ediv_cancel _ (by omega)]
/-- signed: by b bits and by 64 bits -/
theorem shift_s (sz : Int) (b k : Nat) (x : Int) (hb : (b : Int) = 8 * sz) (h : Size sz) (hk : k < b) :
    fitS sz true (x * 2 ^ k) / 2 ^ k = wrap64 (x * 2 ^ (64 - (b - k))) / 2 ^ (64 - (b - k)) := by
  have h64 : b ≤ 64 := by rcases h with rfl | rfl | rfl | rfl <;> omega
  have e1 : fitS sz true (x * 2 ^ k) = (x * 2 ^ k + 2 ^ (b - 1)) % 2 ^ b - 2 ^ (b - 1) := by
    unfold fitS
    rcases h with rfl | rfl | rfl | rfl
    · have : b = 8 := by omega
      subst this; simp [modS]
    · have : b = 16 := by omega
      subst this; simp [modS]
    · have : b = 32 := by omega
      subst this; simp [modS]
    · have : b = 64 := by omega
      subst this; simp [modS]
  have e2 : wrap64 (x * 2 ^ (64 - (b - k))) = (x * 2 ^ (64 - (b - k)) + 2 ^ (64 - 1)) % 2 ^ 64 - 2 ^ (64 - 1) := by
    unfold wrap64; rfl
  rw [e1, e2, back_s b k x hk, back_s 64 (64 - (b - k)) x (by omega)]
  rw [show 64 - (64 - (b - k)) = b - k by omega]
/-- unsigned -/
theorem shift_u (sz : Int) (b k : Nat) (x : Int) (hb : (b : Int) = 8 * sz) (h : Size sz) (hk : k < b) :
    wrap64 (uS (fitS sz false (x * 2 ^ k)) / 2 ^ k) = wrap64 (IntKind.u64.wrap (uS x * 2 ^ (64 - (b - k))) / 2 ^ (64 - (b - k))) := by
  have h64 : b ≤ 64 := by rcases h with rfl | rfl | rfl | rfl <;> omega
  have e1 : uS (fitS sz false (x * 2 ^ k)) = x * 2 ^ k % 2 ^ b := by
    generalize x * 2 ^ k = n
    unfold fitS uS
    rcases h with rfl | rfl | rfl | rfl
    · have : b = 8 := by omega
      subst this; simp [modS]; omega
    · have : b = 16 := by omega
      subst this; simp [modS]; omega
    · have : b = 32 := by omega
      subst this; simp [modS]; omega
    · have : b = 64 := by omega
      subst this; simp [modS]
  have e2 : IntKind.u64.wrap (uS x * 2 ^ (64 - (b - k))) = uS x * 2 ^ (64 - (b - k)) % 2 ^ 64 := IntKind.wrap_u64 _
  rw [e1, e2, back_u b k x (by omega), back_u 64 (64 - (b - k)) _ (by omega)]
  rw [show 64 - (64 - (b - k)) = b - k by omega]
  congr 1
  have e3 : uS x = x % 2 ^ 64 := rfl
  rw [e3, Int.emod_emod_of_dvd]
  rw [pw_split 64 (b - k) (by omega)]
  exact Int.dvd_mul_left _ _
theorem mask (n : Int) (j : Nat) (hj : j < 64) (m : Int) (hm : m = 2 ^ j - 1) : bits .and .i64 n m = n % 2 ^ j := by
  have h := bits_opN 3 (by decide) n m
  have e3 : bitO 3 = .and := rfl
  rw [e3] at h
  rw [h]
  have hp : (2 : Nat) ^ j < 2 ^ 64 := Nat.pow_lt_pow_right (by decide) hj
  have hpos : 0 < (2 : Nat) ^ j := Nat.pow_pos (by decide)
  have hc : ((2 ^ j : Nat) : Int) = 2 ^ j := by simp
  have e : opN 3 (nat64 n) (nat64 m) = nat64 n % 2 ^ j := by
    have : nat64 m = 2 ^ j - 1 := by
      have := nat64_eq m; subst hm; omega
    rw [this]; exact Nat.and_two_pow_sub_one_eq_mod _ j
  rw [e]
  have h2 := nat64_eq n
  have h3 : ((nat64 n % 2 ^ j : Nat) : Int) = n % 2 ^ j := by
    rw [Int.natCast_emod, hc, h2]
    have e64 : (18446744073709551616 : Int) = 2 ^ 64 := by decide
    rw [e64, Int.emod_emod_of_dvd]
    rw [pw_split 64 j (by omega)]
    exact Int.dvd_mul_left _ _
  rw [h3]
  have h4 : n % 2 ^ j < 2 ^ 63 := by
    have h5 := Int.emod_lt_of_pos n (pw_pos j)
    have h6 : (2 : Nat) ^ j ≤ 2 ^ 63 := Nat.pow_le_pow_right (by decide) (by omega)
    omega
  have h7 := Int.emod_nonneg n (b := 2 ^ j) (by omega)
  unfold wrap64; omega
end Go.Proofs.Ytaijipapdbahkaa
