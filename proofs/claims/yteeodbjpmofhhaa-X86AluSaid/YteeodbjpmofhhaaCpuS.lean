/- Walks: the reference's shifts, bit by bit. No condition. -/
import Derived.Test.YteeodbjpmofhhaaCpuR
namespace Go.Proofs.Yteeodbjpmofhhaa
open Go.RowKit
set_option linter.unusedVariables false
set_option maxHeartbeats 1000000
/-! Shifts, one by one. -/
theorem shl_step (a : Int) (i : Nat) : IntKind.u64.wrap (IntKind.u64.wrap (a * 2 ^ i) + IntKind.u64.wrap (a * 2 ^ i)) = IntKind.u64.wrap (a * 2 ^ (i + 1)) := by
  rw [IntKind.wrap_u64, IntKind.wrap_u64, IntKind.wrap_u64, Int.pow_succ, ← Int.mul_assoc]
  generalize a * 2 ^ i = m
  omega
theorem shr_step (a : Int) (i : Nat) : a / 2 ^ i / 2 = a / 2 ^ (i + 1) := by
  rw [Int.pow_succ, Int.ediv_ediv_of_nonneg (Int.le_of_lt (Int.pow_pos (by decide)))]
theorem sar_step (s : Int) (hs : In64 s) : IntKind.u64.wrap (IntKind.u64.wrap s / 2 + (IntKind.u64.wrap s - IntKind.u64.wrap s % 9223372036854775808)) = IntKind.u64.wrap (s / 2) := by
  obtain ⟨h1, h2⟩ := hs
  rw [IntKind.wrap_u64, IntKind.wrap_u64, IntKind.wrap_u64]
  omega
theorem sar_in (a : Int) (i : Nat) : In64 (wrap64 a / 2 ^ i) := by
  have hp : (0 : Int) < 2 ^ i := Int.pow_pos (by decide)
  have h : -9223372036854775808 ≤ wrap64 a ∧ wrap64 a ≤ 9223372036854775807 := by unfold wrap64; omega
  generalize wrap64 a = m at *
  unfold In64
  constructor
  · have := Int.ediv_mul_le m (Int.ne_of_gt hp)
    rcases Int.lt_or_le m 0 with hm | hm
    · have h1 : m ≤ m / 2 ^ i := by
        apply Int.le_ediv_of_mul_le hp
        have : m * 2 ^ i ≤ m * 1 := Int.mul_le_mul_of_nonpos_left (by omega) (by omega)
        omega
      omega
    · have := Int.ediv_nonneg hm (Int.le_of_lt hp); omega
  · rcases Int.lt_or_le m 0 with hm | hm
    · have := Int.ediv_neg_of_neg_of_pos hm hp; omega
    · have := Int.ediv_le_self (2 ^ i) hm; omega
theorem sar_next (a : Int) (i : Nat) : IntKind.u64.wrap (IntKind.u64.wrap (wrap64 a / 2 ^ i) / 2 + (IntKind.u64.wrap (wrap64 a / 2 ^ i) - IntKind.u64.wrap (wrap64 a / 2 ^ i) % 9223372036854775808)) = IntKind.u64.wrap (wrap64 a / 2 ^ (i + 1)) := by
  rw [sar_step _ (sar_in a i)]
  rw [Int.pow_succ, Int.ediv_ediv_of_nonneg (Int.le_of_lt (Int.pow_pos (by decide)))]
theorem ref_shl (op a b : Int) (f : Fl) (w : World) (ha : InU64 a) (hb : InU64 b) (hop : op = 21 ∨ op = 24) (hk : ¬ b % 64 = 0) :
    Calls Try.prog 11 #[.int .i64 op, .int .u64 a, .int .u64 b, f.v] w fun e w' => aluIs (alu op a b f) e ∧ Below w.heap.size w w' := by
  have hal : alu op a b f = (shf op a (b % 64).toNat, logF (shf op a (b % 64).toNat), true) := by
    rcases hop with rfl | rfl <;> simp [alu, hk]
  have hin := shf_in op a (b % 64).toNat ha
  have hsh : shf op a (b % 64).toNat = IntKind.u64.wrap (a * 2 ^ (b % 64).toNat) := by
    rcases hop with rfl | rfl <;> simp [shf]
  rw [hsh] at hin
  rw [hal, hsh]
  obtain ⟨k, hk1, hk2⟩ : ∃ k : Nat, b % 64 = (k : Int) ∧ k < 64 := ⟨(b % 64).toNat, by omega, by omega⟩
  have e : (b % 64).toNat = k := by omega
  rw [e] at hin ⊢
  unfold aluIs logF
  have TN := Lib.hid (fun w => top_walk (IntKind.u64.wrap (a * 2 ^ k)) _ w hin rfl)
  generalize hp : p63 (IntKind.u64.wrap (a * 2 ^ k)) = tn at *
  have ST := Lib.hid (fun i => shl_step a i)
  have E0 : a = IntKind.u64.wrap (a * 2 ^ 0) := by
    obtain ⟨a1, a2⟩ := ha
    rw [IntKind.wrap_u64]; simp; omega
  have E0 := Lib.hid E0
  have E2 := Lib.hid (fun i => shf_in op a i ha)
  clear hp hsh hal hin
  rename_i E1
  clear E1
  have hk0 : ((k : Int) == 0) = false := by simp; omega
  have hk3 : 0 < k := by omega
  obtain ⟨ha1, ha2⟩ := ha
  obtain ⟨hb1, hb2⟩ := hb
  obtain ⟨z, s, c, o⟩ := f
  clear hk e
  unfold Fl.v at *
  rcases hop with rfl | rfl
  all_goals
    go_enter Try.func11, Try.ntmps11
    go_wp2_with fail
    go_loop [11, 15] (fun n i => ∃ j : Nat, j ≤ k ∧ i = .int .i64 j ∧ n = .int .u64 (IntKind.u64.wrap (a * 2 ^ j))) (fun _ i => k - (intOf i).toNat)
    case atStart => exact ⟨0, by omega, rfl, by rw [← E0.out]⟩
    case round =>
      obtain ⟨j, hj, rfl, rfl⟩ := hrel
      by_cases hlt : j < k
      · have hs := Lib.hid (ST.out j)
        obtain ⟨hi1, hi2⟩ : InU64 (IntKind.u64.wrap (a * 2 ^ j)) := E2.out j
        generalize IntKind.u64.wrap (a * 2 ^ j) = m at *
        go_wp2_with fail
        go_round
        case rel => exact ⟨j + 1, by omega, by go_num, by rw [← hs.out]; try rw [IntWalk.u64_in _ (by omega)]⟩
        case measure => simp [intOf]; omega
      · obtain rfl : j = k := by omega
        go_wp2_with fail
        refine (TN.out _).mono ?_
        rintro e w1 ⟨rfl, rfl⟩
        go_wp2_with fail
        go_region
        all_goals go_wp2
        all_goals go_returns
        all_goals refine ⟨rfl, ?_⟩
        all_goals go_grown
theorem ref_sar (op a b : Int) (f : Fl) (w : World) (ha : InU64 a) (hb : InU64 b) (hop : op = 22 ∨ op = 25) (hk : ¬ b % 64 = 0) :
    Calls Try.prog 11 #[.int .i64 op, .int .u64 a, .int .u64 b, f.v] w fun e w' => aluIs (alu op a b f) e ∧ Below w.heap.size w w' := by
  have hal : alu op a b f = (shf op a (b % 64).toNat, logF (shf op a (b % 64).toNat), true) := by
    rcases hop with rfl | rfl <;> simp [alu, hk]
  have hin := shf_in op a (b % 64).toNat ha
  have hsh : shf op a (b % 64).toNat = IntKind.u64.wrap (wrap64 a / 2 ^ (b % 64).toNat) := by
    rcases hop with rfl | rfl <;> simp [shf]
  rw [hsh] at hin
  rw [hal, hsh]
  obtain ⟨k, hk1, hk2⟩ : ∃ k : Nat, b % 64 = (k : Int) ∧ k < 64 := ⟨(b % 64).toNat, by omega, by omega⟩
  have e : (b % 64).toNat = k := by omega
  rw [e] at hin ⊢
  unfold aluIs logF
  have TN := Lib.hid (fun w => top_walk (IntKind.u64.wrap (wrap64 a / 2 ^ k)) _ w hin rfl)
  generalize hp : p63 (IntKind.u64.wrap (wrap64 a / 2 ^ k)) = tn at *
  have ST := Lib.hid (fun i => sar_next a i)
  have E0 : a = IntKind.u64.wrap (wrap64 a / 2 ^ 0) := by
    obtain ⟨a1, a2⟩ := ha
    rw [IntKind.wrap_u64]; simp; unfold wrap64; omega
  have E0 := Lib.hid E0
  have E2 := Lib.hid (fun i => shf_in op a i ha)
  clear hp hsh hal hin
  rename_i E1
  clear E1
  have hk0 : ((k : Int) == 0) = false := by simp; omega
  have hk3 : 0 < k := by omega
  obtain ⟨ha1, ha2⟩ := ha
  obtain ⟨hb1, hb2⟩ := hb
  obtain ⟨z, s, c, o⟩ := f
  clear hk e
  unfold Fl.v at *
  rcases hop with rfl | rfl
  all_goals
    go_enter Try.func11, Try.ntmps11
    go_wp2_with fail
    go_loop [11, 15] (fun n i => ∃ j : Nat, j ≤ k ∧ i = .int .i64 j ∧ n = .int .u64 (IntKind.u64.wrap (wrap64 a / 2 ^ j))) (fun _ i => k - (intOf i).toNat)
    case atStart => exact ⟨0, by omega, rfl, by rw [← E0.out]⟩
    case round =>
      obtain ⟨j, hj, rfl, rfl⟩ := hrel
      by_cases hlt : j < k
      · have hs := Lib.hid (ST.out j)
        obtain ⟨hi1, hi2⟩ : InU64 (IntKind.u64.wrap (wrap64 a / 2 ^ j)) := E2.out j
        generalize IntKind.u64.wrap (wrap64 a / 2 ^ j) = m at *
        go_wp2_with fail
        go_round
        case rel => exact ⟨j + 1, by omega, by go_num, by rw [← hs.out]; try rw [IntWalk.u64_in _ (by omega)]⟩
        case measure => simp [intOf]; omega
      · obtain rfl : j = k := by omega
        go_wp2_with fail
        refine (TN.out _).mono ?_
        rintro e w1 ⟨rfl, rfl⟩
        go_wp2_with fail
        go_region
        all_goals go_wp2
        all_goals go_returns
        all_goals refine ⟨rfl, ?_⟩
        all_goals go_grown
theorem ref_shr (op a b : Int) (f : Fl) (w : World) (ha : InU64 a) (hb : InU64 b) (hop : op = 23 ∨ op = 26) (hk : ¬ b % 64 = 0) :
    Calls Try.prog 11 #[.int .i64 op, .int .u64 a, .int .u64 b, f.v] w fun e w' => aluIs (alu op a b f) e ∧ Below w.heap.size w w' := by
  have hal : alu op a b f = (shf op a (b % 64).toNat, logF (shf op a (b % 64).toNat), true) := by
    rcases hop with rfl | rfl <;> simp [alu, hk]
  have hin := shf_in op a (b % 64).toNat ha
  have hsh : shf op a (b % 64).toNat = a / 2 ^ (b % 64).toNat := by
    rcases hop with rfl | rfl <;> simp [shf]
  rw [hsh] at hin
  rw [hal, hsh]
  obtain ⟨k, hk1, hk2⟩ : ∃ k : Nat, b % 64 = (k : Int) ∧ k < 64 := ⟨(b % 64).toNat, by omega, by omega⟩
  have e : (b % 64).toNat = k := by omega
  rw [e] at hin ⊢
  unfold aluIs logF
  have TN := Lib.hid (fun w => top_walk (a / 2 ^ k) _ w hin rfl)
  generalize hp : p63 (a / 2 ^ k) = tn at *
  have ST := Lib.hid (fun i => shr_step a i)
  have E0 : a = a / 2 ^ 0 := by
    obtain ⟨a1, a2⟩ := ha
    simp
  have E0 := Lib.hid E0
  have E2 := Lib.hid (fun i => shf_in op a i ha)
  clear hp hsh hal hin
  rename_i E1
  clear E1
  have hk0 : ((k : Int) == 0) = false := by simp; omega
  have hk3 : 0 < k := by omega
  obtain ⟨ha1, ha2⟩ := ha
  obtain ⟨hb1, hb2⟩ := hb
  obtain ⟨z, s, c, o⟩ := f
  clear hk e
  unfold Fl.v at *
  rcases hop with rfl | rfl
  all_goals
    go_enter Try.func11, Try.ntmps11
    go_wp2_with fail
    go_loop [11, 15] (fun n i => ∃ j : Nat, j ≤ k ∧ i = .int .i64 j ∧ n = .int .u64 (a / 2 ^ j)) (fun _ i => k - (intOf i).toNat)
    case atStart => exact ⟨0, by omega, rfl, by rw [← E0.out]⟩
    case round =>
      obtain ⟨j, hj, rfl, rfl⟩ := hrel
      by_cases hlt : j < k
      · have hs := Lib.hid (ST.out j)
        obtain ⟨hi1, hi2⟩ : InU64 (a / 2 ^ j) := E2.out j
        generalize a / 2 ^ j = m at *
        go_wp2_with fail
        go_round
        case rel => exact ⟨j + 1, by omega, by go_num, by rw [← hs.out]; try rw [IntWalk.u64_in _ (by omega)]⟩
        case measure => simp [intOf]; omega
      · obtain rfl : j = k := by omega
        go_wp2_with fail
        refine (TN.out _).mono ?_
        rintro e w1 ⟨rfl, rfl⟩
        go_wp2_with fail
        go_region
        all_goals go_wp2
        all_goals go_returns
        all_goals refine ⟨rfl, ?_⟩
        all_goals go_grown
end Go.Proofs.Yteeodbjpmofhhaa
